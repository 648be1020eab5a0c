/-
  bitmap: the law BitmapOrs, walked.
-/
import Derived.Test.YtigbmbmngkmdlaaBp
import Derived.Test.YtigbmbmngkmdlaaBq
import Derived.Test.YtigbmbmngkmdlaaBf
namespace Go.Proofs.Ytigbmbmngkmdlaa.Bm
open Go.RowKit Go.Proofs.Ytigbmbmngkmdlaa.L Go.Proofs.Ytigbmbmngkmdlaa.Bt Go.Proofs.YtigbmbmngkmdlaaW.PrintWords

theorem mk3' (w : World) (n x m y k u : Int) : ∃ z, z = ((w.alloc (.cells #[.int .i64 n, .int .u64 x] 24)).alloc (.cells #[.int .i64 m, .int .u64 y] 24)).alloc (.cells #[.int .i64 k, .int .u64 u] 24) ∧
    At w.heap.size n x z ∧ At (w.heap.size + 1) m y z ∧ At (w.heap.size + 2) k u z ∧ Below w.heap.size w z := by
  obtain ⟨a, ha, h1, b1⟩ := mk w n x
  obtain ⟨b, hb, h2, b2⟩ := mk a m y
  obtain ⟨z, hz, h3, b3⟩ := mk b k u
  have e1 : a.heap.size = w.heap.size + 1 := by rw [ha]; simp
  have e2 : b.heap.size = w.heap.size + 2 := by rw [hb, ha]; simp
  rw [e1] at h2
  rw [e2] at h3
  exact ⟨z, by rw [hz, hb, ha], (h1.below b2).below b3, h2.below b3, h3, stay1 (stay1 b1 b2) b3⟩
theorem or_yes {n : Int} {x y : Nat} (h1 : rgt n x = true) (h2 : rgt n y = true) : orR n x n y = (n, x ||| y, 0) ∧ rgt n (x ||| y) = true := by
  refine ⟨by simp [orR, h1, h2], ?_⟩
  simp [rgt] at h1 h2 ⊢
  exact ⟨h1.1, Nat.or_lt_two_pow h1.2 h2.2⟩
theorem rgt_zero {n : Int} {x : Nat} (h : rgt n x = true) : rgt n 0 = true ∧ newR n = (n, 0, 0) ∧ x < 2 ^ 64 := by
  simp [rgt] at h ⊢
  refine ⟨⟨h.1, Nat.two_pow_pos _⟩, ?_, Nat.lt_of_lt_of_le h.2 (show 2 ^ n.toNat ≤ 2 ^ 64 from Nat.pow_le_pow_right (by decide) (by omega))⟩
  simp [newR, show ¬ n < 0 by omega, show ¬ 64 < n by omega]
/-- Or of two maps that may be, of one length. -/
theorem or_same (n : Int) (x y : Nat) (w : World) (h1 : rgt n x = true) (h2 : rgt n y = true) : Calls Try.prog 45 #[.agg #[.int .i64 n, .int .u64 x], .agg #[.int .i64 n, .int .u64 y]] w fun e w' => e = .returned (.tuple #[.agg #[.int .i64 n, .int .u64 ((x ||| y : Nat) : Int)], .int .i64 0]) ∧ Below w.heap.size w w' := by
  have := or_any n x n y w (rgt_zero h1).2.2 (rgt_zero h2).2.2
  rwa [(or_yes h1 h2).1] at this
theorem or_as (n : Int) (x y z : Nat) (w : World) (h1 : rgt n x = true) (h2 : rgt n y = true) (hz : x ||| y = z) : Calls Try.prog 45 #[.agg #[.int .i64 n, .int .u64 x], .agg #[.int .i64 n, .int .u64 y]] w fun e w' => e = .returned (.tuple #[.agg #[.int .i64 n, .int .u64 z], .int .i64 0]) ∧ Below w.heap.size w w' := by
  subst hz
  exact or_same n x y w h1 h2
theorem or_zero (n : Int) (x : Nat) (w : World) (h1 : rgt n 0 = true) (h2 : rgt n x = true) : Calls Try.prog 45 #[.agg #[.int .i64 n, .int .u64 0], .agg #[.int .i64 n, .int .u64 x]] w fun e w' => e = .returned (.tuple #[.agg #[.int .i64 n, .int .u64 x], .int .i64 0]) ∧ Below w.heap.size w w' :=
  or_as n 0 x x w h1 h2 (Nat.zero_or x)
theorem count_yes (n : Int) (x : Nat) (w : World) (h : rgt n x = true) : Calls Try.prog 46 #[.agg #[.int .i64 n, .int .u64 x]] w fun e w' => e = .returned (.int .i64 (pcB 64 x)) ∧ Below w.heap.size w w' := by
  have := count_any n x w (rgt_zero h).2.2
  rwa [h, if_pos rfl] at this
theorem new_yes (n : Int) (x : Nat) (w : World) (h : rgt n x = true) : Calls Try.prog 44 #[.int .i64 n] w fun e w' => e = .returned (.tuple #[.agg #[.int .i64 n, .int .u64 0], .int .i64 0]) ∧ Below w.heap.size w w' := by
  have := new_any n w
  rwa [(rgt_zero h).2.1] at this

set_option maxHeartbeats 6400000 in
set_option maxRecDepth 100000 in
theorem ors_walk (n : Int) (x : Nat) (m : Int) (y : Nat) (k : Int) (z : Nat) (w : World) (hx : x < 2 ^ 64) (hy : y < 2 ^ 64) (hz : z < 2 ^ 64) :
    Calls Try.prog 9 #[.agg #[.int .i64 n, .int .u64 x], .agg #[.int .i64 m, .int .u64 y], .agg #[.int .i64 k, .int .u64 z]] w fun e w' => e = .returned (.bool true) ∧ Below w.heap.size w w' := by
  have hu := Try.underlying24
  obtain ⟨wc, hwc, ha, hb, hc, hbel⟩ := mk3' w n x m y k z
  have HB := Lib.hid hbel
  have HA := Lib.hid ha
  have HBb := Lib.hid hb
  have HCc := Lib.hid hc
  have HRa := Lib.hid (fun w => right_any n x w hx)
  have HRb := Lib.hid (fun w => right_any m y w hy)
  have HRc := Lib.hid (fun w => right_any k z w hz)
  have HX := Lib.hid (show x < 2 ^ 64 ∧ y < 2 ^ 64 ∧ z < 2 ^ 64 from ⟨hx, hy, hz⟩)
  clear ha hb hc hbel hx hy hz
  have six : rgt n x = false ∨ (rgt n x = true ∧ rgt m y = false) ∨ (rgt n x = true ∧ rgt m y = true ∧ rgt k z = false) ∨ (rgt n x = true ∧ rgt m y = true ∧ rgt k z = true ∧ (n != m) = true) ∨ (rgt n x = true ∧ rgt m y = true ∧ rgt k z = true ∧ (n != m) = false ∧ (m != k) = true) ∨ (rgt n x = true ∧ rgt m y = true ∧ rgt k z = true ∧ (n != m) = false ∧ (m != k) = false) := by
    cases rgt n x <;> cases rgt m y <;> cases rgt k z <;> cases (n != m) <;> cases (m != k) <;> simp
  rcases six with h1 | ⟨h1, h2⟩ | ⟨h1, h2, h3⟩ | ⟨h1, h2, h3, t1⟩ | ⟨h1, h2, h3, t1, t2⟩ | ⟨h1, h2, h3, t1, t2⟩
  · rw [h1] at HRa
    have ha_0 := HA.out.c0
    have ha_1 := HA.out.c1
    have hbb_0 := HBb.out.c0
    have hbb_1 := HBb.out.c1
    have hcc_0 := HCc.out.c0
    have hcc_1 := HCc.out.c1
    rw [hwc] at ha_0 ha_1 hbb_0 hbb_1 hcc_0 hcc_1
    go_enter Try.func9, Try.ntmps9
    go_wp2_with fail
    rw [← hwc]
    clear hwc
    clear ha_0 ha_1 hbb_0 hbb_1 hcc_0 hcc_1
    refine (HRa.out _).mono ?_
    rintro e w1 ⟨rfl, hb1⟩
    replace HB := Lib.hid (stay1 HB.out hb1)
    replace HA := Lib.hid (HA.out.below hb1)
    replace HBb := Lib.hid (HBb.out.below hb1)
    replace HCc := Lib.hid (HCc.out.below hb1)
    clear hb1
    have ha_0 := HA.out.c0
    have ha_1 := HA.out.c1
    have hbb_0 := HBb.out.c0
    have hbb_1 := HBb.out.c1
    have hcc_0 := HCc.out.c0
    have hcc_1 := HCc.out.c1
    go_wp2_with fail
    clear ha_0 ha_1 hbb_0 hbb_1 hcc_0 hcc_1
    refine (alive_any _).mono ?_
    rintro e w2 ⟨rfl, hb2⟩
    replace HB := Lib.hid (stay1 HB.out hb2)
    replace HA := Lib.hid (HA.out.below hb2)
    replace HBb := Lib.hid (HBb.out.below hb2)
    replace HCc := Lib.hid (HCc.out.below hb2)
    clear hb2
    go_wp2
    go_ret
    exact ⟨rfl, HB.out⟩
  · rw [h1] at HRa
    rw [h2] at HRb
    have ha_0 := HA.out.c0
    have ha_1 := HA.out.c1
    have hbb_0 := HBb.out.c0
    have hbb_1 := HBb.out.c1
    have hcc_0 := HCc.out.c0
    have hcc_1 := HCc.out.c1
    rw [hwc] at ha_0 ha_1 hbb_0 hbb_1 hcc_0 hcc_1
    go_enter Try.func9, Try.ntmps9
    go_wp2_with fail
    rw [← hwc]
    clear hwc
    clear ha_0 ha_1 hbb_0 hbb_1 hcc_0 hcc_1
    refine (HRa.out _).mono ?_
    rintro e w3 ⟨rfl, hb3⟩
    replace HB := Lib.hid (stay1 HB.out hb3)
    replace HA := Lib.hid (HA.out.below hb3)
    replace HBb := Lib.hid (HBb.out.below hb3)
    replace HCc := Lib.hid (HCc.out.below hb3)
    clear hb3
    have ha_0 := HA.out.c0
    have ha_1 := HA.out.c1
    have hbb_0 := HBb.out.c0
    have hbb_1 := HBb.out.c1
    have hcc_0 := HCc.out.c0
    have hcc_1 := HCc.out.c1
    go_wp2_with fail
    clear ha_0 ha_1 hbb_0 hbb_1 hcc_0 hcc_1
    refine (HRb.out _).mono ?_
    rintro e w4 ⟨rfl, hb4⟩
    replace HB := Lib.hid (stay1 HB.out hb4)
    replace HA := Lib.hid (HA.out.below hb4)
    replace HBb := Lib.hid (HBb.out.below hb4)
    replace HCc := Lib.hid (HCc.out.below hb4)
    clear hb4
    have ha_0 := HA.out.c0
    have ha_1 := HA.out.c1
    have hbb_0 := HBb.out.c0
    have hbb_1 := HBb.out.c1
    have hcc_0 := HCc.out.c0
    have hcc_1 := HCc.out.c1
    go_wp2_with fail
    clear ha_0 ha_1 hbb_0 hbb_1 hcc_0 hcc_1
    refine (alive_any _).mono ?_
    rintro e w5 ⟨rfl, hb5⟩
    replace HB := Lib.hid (stay1 HB.out hb5)
    replace HA := Lib.hid (HA.out.below hb5)
    replace HBb := Lib.hid (HBb.out.below hb5)
    replace HCc := Lib.hid (HCc.out.below hb5)
    clear hb5
    go_wp2
    go_ret
    exact ⟨rfl, HB.out⟩
  · rw [h1] at HRa
    rw [h2] at HRb
    rw [h3] at HRc
    have ha_0 := HA.out.c0
    have ha_1 := HA.out.c1
    have hbb_0 := HBb.out.c0
    have hbb_1 := HBb.out.c1
    have hcc_0 := HCc.out.c0
    have hcc_1 := HCc.out.c1
    rw [hwc] at ha_0 ha_1 hbb_0 hbb_1 hcc_0 hcc_1
    go_enter Try.func9, Try.ntmps9
    go_wp2_with fail
    rw [← hwc]
    clear hwc
    clear ha_0 ha_1 hbb_0 hbb_1 hcc_0 hcc_1
    refine (HRa.out _).mono ?_
    rintro e w6 ⟨rfl, hb6⟩
    replace HB := Lib.hid (stay1 HB.out hb6)
    replace HA := Lib.hid (HA.out.below hb6)
    replace HBb := Lib.hid (HBb.out.below hb6)
    replace HCc := Lib.hid (HCc.out.below hb6)
    clear hb6
    have ha_0 := HA.out.c0
    have ha_1 := HA.out.c1
    have hbb_0 := HBb.out.c0
    have hbb_1 := HBb.out.c1
    have hcc_0 := HCc.out.c0
    have hcc_1 := HCc.out.c1
    go_wp2_with fail
    clear ha_0 ha_1 hbb_0 hbb_1 hcc_0 hcc_1
    refine (HRb.out _).mono ?_
    rintro e w7 ⟨rfl, hb7⟩
    replace HB := Lib.hid (stay1 HB.out hb7)
    replace HA := Lib.hid (HA.out.below hb7)
    replace HBb := Lib.hid (HBb.out.below hb7)
    replace HCc := Lib.hid (HCc.out.below hb7)
    clear hb7
    have ha_0 := HA.out.c0
    have ha_1 := HA.out.c1
    have hbb_0 := HBb.out.c0
    have hbb_1 := HBb.out.c1
    have hcc_0 := HCc.out.c0
    have hcc_1 := HCc.out.c1
    go_wp2_with fail
    clear ha_0 ha_1 hbb_0 hbb_1 hcc_0 hcc_1
    refine (HRc.out _).mono ?_
    rintro e w8 ⟨rfl, hb8⟩
    replace HB := Lib.hid (stay1 HB.out hb8)
    replace HA := Lib.hid (HA.out.below hb8)
    replace HBb := Lib.hid (HBb.out.below hb8)
    replace HCc := Lib.hid (HCc.out.below hb8)
    clear hb8
    have ha_0 := HA.out.c0
    have ha_1 := HA.out.c1
    have hbb_0 := HBb.out.c0
    have hbb_1 := HBb.out.c1
    have hcc_0 := HCc.out.c0
    have hcc_1 := HCc.out.c1
    go_wp2_with fail
    clear ha_0 ha_1 hbb_0 hbb_1 hcc_0 hcc_1
    refine (alive_any _).mono ?_
    rintro e w9 ⟨rfl, hb9⟩
    replace HB := Lib.hid (stay1 HB.out hb9)
    replace HA := Lib.hid (HA.out.below hb9)
    replace HBb := Lib.hid (HBb.out.below hb9)
    replace HCc := Lib.hid (HCc.out.below hb9)
    clear hb9
    go_wp2
    go_ret
    exact ⟨rfl, HB.out⟩
  · rw [h1] at HRa
    rw [h2] at HRb
    rw [h3] at HRc
    have ha_0 := HA.out.c0
    have ha_1 := HA.out.c1
    have hbb_0 := HBb.out.c0
    have hbb_1 := HBb.out.c1
    have hcc_0 := HCc.out.c0
    have hcc_1 := HCc.out.c1
    rw [hwc] at ha_0 ha_1 hbb_0 hbb_1 hcc_0 hcc_1
    go_enter Try.func9, Try.ntmps9
    go_wp2_with fail
    rw [← hwc]
    clear hwc
    clear ha_0 ha_1 hbb_0 hbb_1 hcc_0 hcc_1
    refine (HRa.out _).mono ?_
    rintro e w10 ⟨rfl, hb10⟩
    replace HB := Lib.hid (stay1 HB.out hb10)
    replace HA := Lib.hid (HA.out.below hb10)
    replace HBb := Lib.hid (HBb.out.below hb10)
    replace HCc := Lib.hid (HCc.out.below hb10)
    clear hb10
    have ha_0 := HA.out.c0
    have ha_1 := HA.out.c1
    have hbb_0 := HBb.out.c0
    have hbb_1 := HBb.out.c1
    have hcc_0 := HCc.out.c0
    have hcc_1 := HCc.out.c1
    go_wp2_with fail
    clear ha_0 ha_1 hbb_0 hbb_1 hcc_0 hcc_1
    refine (HRb.out _).mono ?_
    rintro e w11 ⟨rfl, hb11⟩
    replace HB := Lib.hid (stay1 HB.out hb11)
    replace HA := Lib.hid (HA.out.below hb11)
    replace HBb := Lib.hid (HBb.out.below hb11)
    replace HCc := Lib.hid (HCc.out.below hb11)
    clear hb11
    have ha_0 := HA.out.c0
    have ha_1 := HA.out.c1
    have hbb_0 := HBb.out.c0
    have hbb_1 := HBb.out.c1
    have hcc_0 := HCc.out.c0
    have hcc_1 := HCc.out.c1
    go_wp2_with fail
    clear ha_0 ha_1 hbb_0 hbb_1 hcc_0 hcc_1
    refine (HRc.out _).mono ?_
    rintro e w12 ⟨rfl, hb12⟩
    replace HB := Lib.hid (stay1 HB.out hb12)
    replace HA := Lib.hid (HA.out.below hb12)
    replace HBb := Lib.hid (HBb.out.below hb12)
    replace HCc := Lib.hid (HCc.out.below hb12)
    clear hb12
    have ha_0 := HA.out.c0
    have ha_1 := HA.out.c1
    have hbb_0 := HBb.out.c0
    have hbb_1 := HBb.out.c1
    have hcc_0 := HCc.out.c0
    have hcc_1 := HCc.out.c1
    go_wp2_with fail
    clear ha_0 ha_1 hbb_0 hbb_1 hcc_0 hcc_1
    refine (alive_any _).mono ?_
    rintro e w13 ⟨rfl, hb13⟩
    replace HB := Lib.hid (stay1 HB.out hb13)
    replace HA := Lib.hid (HA.out.below hb13)
    replace HBb := Lib.hid (HBb.out.below hb13)
    replace HCc := Lib.hid (HCc.out.below hb13)
    clear hb13
    go_wp2
    go_ret
    exact ⟨rfl, HB.out⟩
  · rw [h1] at HRa
    rw [h2] at HRb
    rw [h3] at HRc
    have ha_0 := HA.out.c0
    have ha_1 := HA.out.c1
    have hbb_0 := HBb.out.c0
    have hbb_1 := HBb.out.c1
    have hcc_0 := HCc.out.c0
    have hcc_1 := HCc.out.c1
    rw [hwc] at ha_0 ha_1 hbb_0 hbb_1 hcc_0 hcc_1
    go_enter Try.func9, Try.ntmps9
    go_wp2_with fail
    rw [← hwc]
    clear hwc
    clear ha_0 ha_1 hbb_0 hbb_1 hcc_0 hcc_1
    refine (HRa.out _).mono ?_
    rintro e w14 ⟨rfl, hb14⟩
    replace HB := Lib.hid (stay1 HB.out hb14)
    replace HA := Lib.hid (HA.out.below hb14)
    replace HBb := Lib.hid (HBb.out.below hb14)
    replace HCc := Lib.hid (HCc.out.below hb14)
    clear hb14
    have ha_0 := HA.out.c0
    have ha_1 := HA.out.c1
    have hbb_0 := HBb.out.c0
    have hbb_1 := HBb.out.c1
    have hcc_0 := HCc.out.c0
    have hcc_1 := HCc.out.c1
    go_wp2_with fail
    clear ha_0 ha_1 hbb_0 hbb_1 hcc_0 hcc_1
    refine (HRb.out _).mono ?_
    rintro e w15 ⟨rfl, hb15⟩
    replace HB := Lib.hid (stay1 HB.out hb15)
    replace HA := Lib.hid (HA.out.below hb15)
    replace HBb := Lib.hid (HBb.out.below hb15)
    replace HCc := Lib.hid (HCc.out.below hb15)
    clear hb15
    have ha_0 := HA.out.c0
    have ha_1 := HA.out.c1
    have hbb_0 := HBb.out.c0
    have hbb_1 := HBb.out.c1
    have hcc_0 := HCc.out.c0
    have hcc_1 := HCc.out.c1
    go_wp2_with fail
    clear ha_0 ha_1 hbb_0 hbb_1 hcc_0 hcc_1
    refine (HRc.out _).mono ?_
    rintro e w16 ⟨rfl, hb16⟩
    replace HB := Lib.hid (stay1 HB.out hb16)
    replace HA := Lib.hid (HA.out.below hb16)
    replace HBb := Lib.hid (HBb.out.below hb16)
    replace HCc := Lib.hid (HCc.out.below hb16)
    clear hb16
    have ha_0 := HA.out.c0
    have ha_1 := HA.out.c1
    have hbb_0 := HBb.out.c0
    have hbb_1 := HBb.out.c1
    have hcc_0 := HCc.out.c0
    have hcc_1 := HCc.out.c1
    go_wp2_with fail
    clear ha_0 ha_1 hbb_0 hbb_1 hcc_0 hcc_1
    refine (alive_any _).mono ?_
    rintro e w17 ⟨rfl, hb17⟩
    replace HB := Lib.hid (stay1 HB.out hb17)
    replace HA := Lib.hid (HA.out.below hb17)
    replace HBb := Lib.hid (HBb.out.below hb17)
    replace HCc := Lib.hid (HCc.out.below hb17)
    clear hb17
    go_wp2
    go_ret
    exact ⟨rfl, HB.out⟩
  · obtain rfl : n = m := by simpa using t1
    obtain rfl : n = k := by simpa using t2
    rw [h1] at HRa
    rw [h2] at HRb
    rw [h3] at HRc
    have o12 := (or_yes h1 h2).2
    have o23 := (or_yes h2 h3).2
    have HG := Lib.hid (show rgt n x = true ∧ rgt n y = true ∧ rgt n z = true ∧ rgt n (x ||| y) = true ∧ rgt n (y ||| z) = true ∧ rgt n 0 = true from ⟨h1, h2, h3, o12, o23, (rgt_zero h1).1⟩)
    clear h1 h2 h3 o12 o23 t1 t2
    have ha_0 := HA.out.c0
    have ha_1 := HA.out.c1
    have hbb_0 := HBb.out.c0
    have hbb_1 := HBb.out.c1
    have hcc_0 := HCc.out.c0
    have hcc_1 := HCc.out.c1
    rw [hwc] at ha_0 ha_1 hbb_0 hbb_1 hcc_0 hcc_1
    go_enter Try.func9, Try.ntmps9
    go_wp2_with fail
    rw [← hwc]
    clear hwc
    clear ha_0 ha_1 hbb_0 hbb_1 hcc_0 hcc_1
    refine (HRa.out _).mono ?_
    rintro e w18 ⟨rfl, hb18⟩
    replace HB := Lib.hid (stay1 HB.out hb18)
    replace HA := Lib.hid (HA.out.below hb18)
    replace HBb := Lib.hid (HBb.out.below hb18)
    replace HCc := Lib.hid (HCc.out.below hb18)
    clear hb18
    have ha_0 := HA.out.c0
    have ha_1 := HA.out.c1
    have hbb_0 := HBb.out.c0
    have hbb_1 := HBb.out.c1
    have hcc_0 := HCc.out.c0
    have hcc_1 := HCc.out.c1
    go_wp2_with fail
    clear ha_0 ha_1 hbb_0 hbb_1 hcc_0 hcc_1
    refine (HRb.out _).mono ?_
    rintro e w19 ⟨rfl, hb19⟩
    replace HB := Lib.hid (stay1 HB.out hb19)
    replace HA := Lib.hid (HA.out.below hb19)
    replace HBb := Lib.hid (HBb.out.below hb19)
    replace HCc := Lib.hid (HCc.out.below hb19)
    clear hb19
    have ha_0 := HA.out.c0
    have ha_1 := HA.out.c1
    have hbb_0 := HBb.out.c0
    have hbb_1 := HBb.out.c1
    have hcc_0 := HCc.out.c0
    have hcc_1 := HCc.out.c1
    go_wp2_with fail
    clear ha_0 ha_1 hbb_0 hbb_1 hcc_0 hcc_1
    refine (HRc.out _).mono ?_
    rintro e w20 ⟨rfl, hb20⟩
    replace HB := Lib.hid (stay1 HB.out hb20)
    replace HA := Lib.hid (HA.out.below hb20)
    replace HBb := Lib.hid (HBb.out.below hb20)
    replace HCc := Lib.hid (HCc.out.below hb20)
    clear hb20
    have ha_0 := HA.out.c0
    have ha_1 := HA.out.c1
    have hbb_0 := HBb.out.c0
    have hbb_1 := HBb.out.c1
    have hcc_0 := HCc.out.c0
    have hcc_1 := HCc.out.c1
    clear HRa HRb HRc
    go_wp2_with fail
    clear ha_0 ha_1 hbb_0 hbb_1 hcc_0 hcc_1
    refine (new_yes n x _ HG.out.1).mono ?_
    rintro e w21 ⟨rfl, hb21⟩
    replace HB := Lib.hid (stay1 HB.out hb21)
    replace HA := Lib.hid (HA.out.below hb21)
    replace HBb := Lib.hid (HBb.out.below hb21)
    replace HCc := Lib.hid (HCc.out.below hb21)
    clear hb21
    obtain ⟨y22, hy22, ha22, hby22⟩ := mk w21 n 0
    replace HB := Lib.hid (stay1 HB.out hby22)
    replace HA := Lib.hid (HA.out.below hby22)
    replace HBb := Lib.hid (HBb.out.below hby22)
    replace HCc := Lib.hid (HCc.out.below hby22)
    have H7 := Lib.hid (ha22)
    clear ha22 hby22
    have ha_0 := HA.out.c0
    have ha_1 := HA.out.c1
    have hbb_0 := HBb.out.c0
    have hbb_1 := HBb.out.c1
    have hcc_0 := HCc.out.c0
    have hcc_1 := HCc.out.c1
    rw [hy22] at ha_0 ha_1 hbb_0 hbb_1 hcc_0 hcc_1
    go_wp2_with fail
    rw [← hy22]
    clear hy22
    clear ha_0 ha_1 hbb_0 hbb_1 hcc_0 hcc_1
    refine (or_same n x y _ HG.out.1 HG.out.2.1).mono ?_
    rintro e w23 ⟨rfl, hb23⟩
    replace HB := Lib.hid (stay1 HB.out hb23)
    replace HA := Lib.hid (HA.out.below hb23)
    replace HBb := Lib.hid (HBb.out.below hb23)
    replace HCc := Lib.hid (HCc.out.below hb23)
    replace H7 := Lib.hid (H7.out.below hb23)
    clear hb23
    obtain ⟨y24, hy24, ha24, hby24⟩ := mk w23 n ((x ||| y : Nat) : Int)
    replace HB := Lib.hid (stay1 HB.out hby24)
    replace HA := Lib.hid (HA.out.below hby24)
    replace HBb := Lib.hid (HBb.out.below hby24)
    replace HCc := Lib.hid (HCc.out.below hby24)
    replace H7 := Lib.hid (H7.out.below hby24)
    have H9 := Lib.hid (ha24)
    clear ha24 hby24
    have ha_0 := HA.out.c0
    have ha_1 := HA.out.c1
    have hbb_0 := HBb.out.c0
    have hbb_1 := HBb.out.c1
    have hcc_0 := HCc.out.c0
    have hcc_1 := HCc.out.c1
    rw [hy24] at ha_0 ha_1 hbb_0 hbb_1 hcc_0 hcc_1
    go_wp2_with fail
    rw [← hy24]
    clear hy24
    clear ha_0 ha_1 hbb_0 hbb_1 hcc_0 hcc_1
    refine (or_as n y x (x ||| y) _ HG.out.2.1 HG.out.1 (Nat.or_comm y x)).mono ?_
    rintro e w25 ⟨rfl, hb25⟩
    replace HB := Lib.hid (stay1 HB.out hb25)
    replace HA := Lib.hid (HA.out.below hb25)
    replace HBb := Lib.hid (HBb.out.below hb25)
    replace HCc := Lib.hid (HCc.out.below hb25)
    replace H7 := Lib.hid (H7.out.below hb25)
    replace H9 := Lib.hid (H9.out.below hb25)
    clear hb25
    obtain ⟨y26, hy26, ha26, hby26⟩ := mk w25 n ((x ||| y : Nat) : Int)
    replace HB := Lib.hid (stay1 HB.out hby26)
    replace HA := Lib.hid (HA.out.below hby26)
    replace HBb := Lib.hid (HBb.out.below hby26)
    replace HCc := Lib.hid (HCc.out.below hby26)
    replace H7 := Lib.hid (H7.out.below hby26)
    replace H9 := Lib.hid (H9.out.below hby26)
    have H11 := Lib.hid (ha26)
    clear ha26 hby26
    have h9_0 := H9.out.c0
    have h9_1 := H9.out.c1
    have hcc_0 := HCc.out.c0
    have hcc_1 := HCc.out.c1
    rw [hy26] at h9_0 h9_1 hcc_0 hcc_1
    go_wp2_with fail
    rw [← hy26]
    clear hy26
    clear h9_0 h9_1 hcc_0 hcc_1
    refine (or_same n (x ||| y) z _ HG.out.2.2.2.1 HG.out.2.2.1).mono ?_
    rintro e w27 ⟨rfl, hb27⟩
    replace HB := Lib.hid (stay1 HB.out hb27)
    replace HA := Lib.hid (HA.out.below hb27)
    replace HBb := Lib.hid (HBb.out.below hb27)
    replace HCc := Lib.hid (HCc.out.below hb27)
    replace H7 := Lib.hid (H7.out.below hb27)
    replace H9 := Lib.hid (H9.out.below hb27)
    replace H11 := Lib.hid (H11.out.below hb27)
    clear hb27
    obtain ⟨y28, hy28, ha28, hby28⟩ := mk w27 n ((x ||| y ||| z : Nat) : Int)
    replace HB := Lib.hid (stay1 HB.out hby28)
    replace HA := Lib.hid (HA.out.below hby28)
    replace HBb := Lib.hid (HBb.out.below hby28)
    replace HCc := Lib.hid (HCc.out.below hby28)
    replace H7 := Lib.hid (H7.out.below hby28)
    replace H9 := Lib.hid (H9.out.below hby28)
    replace H11 := Lib.hid (H11.out.below hby28)
    have H13 := Lib.hid (ha28)
    clear ha28 hby28
    have hbb_0 := HBb.out.c0
    have hbb_1 := HBb.out.c1
    have hcc_0 := HCc.out.c0
    have hcc_1 := HCc.out.c1
    rw [hy28] at hbb_0 hbb_1 hcc_0 hcc_1
    go_wp2_with fail
    rw [← hy28]
    clear hy28
    clear hbb_0 hbb_1 hcc_0 hcc_1
    refine (or_same n y z _ HG.out.2.1 HG.out.2.2.1).mono ?_
    rintro e w29 ⟨rfl, hb29⟩
    replace HB := Lib.hid (stay1 HB.out hb29)
    replace HA := Lib.hid (HA.out.below hb29)
    replace HBb := Lib.hid (HBb.out.below hb29)
    replace HCc := Lib.hid (HCc.out.below hb29)
    replace H7 := Lib.hid (H7.out.below hb29)
    replace H9 := Lib.hid (H9.out.below hb29)
    replace H11 := Lib.hid (H11.out.below hb29)
    replace H13 := Lib.hid (H13.out.below hb29)
    clear hb29
    obtain ⟨y30, hy30, ha30, hby30⟩ := mk w29 n ((y ||| z : Nat) : Int)
    replace HB := Lib.hid (stay1 HB.out hby30)
    replace HA := Lib.hid (HA.out.below hby30)
    replace HBb := Lib.hid (HBb.out.below hby30)
    replace HCc := Lib.hid (HCc.out.below hby30)
    replace H7 := Lib.hid (H7.out.below hby30)
    replace H9 := Lib.hid (H9.out.below hby30)
    replace H11 := Lib.hid (H11.out.below hby30)
    replace H13 := Lib.hid (H13.out.below hby30)
    have H15 := Lib.hid (ha30)
    clear ha30 hby30
    have ha_0 := HA.out.c0
    have ha_1 := HA.out.c1
    have h15_0 := H15.out.c0
    have h15_1 := H15.out.c1
    rw [hy30] at ha_0 ha_1 h15_0 h15_1
    go_wp2_with fail
    rw [← hy30]
    clear hy30
    clear ha_0 ha_1 h15_0 h15_1
    refine (or_as n x (y ||| z) (x ||| y ||| z) _ HG.out.1 HG.out.2.2.2.2.1 (Nat.or_assoc x y z).symm).mono ?_
    rintro e w31 ⟨rfl, hb31⟩
    replace HB := Lib.hid (stay1 HB.out hb31)
    replace HA := Lib.hid (HA.out.below hb31)
    replace HBb := Lib.hid (HBb.out.below hb31)
    replace HCc := Lib.hid (HCc.out.below hb31)
    replace H7 := Lib.hid (H7.out.below hb31)
    replace H9 := Lib.hid (H9.out.below hb31)
    replace H11 := Lib.hid (H11.out.below hb31)
    replace H13 := Lib.hid (H13.out.below hb31)
    replace H15 := Lib.hid (H15.out.below hb31)
    clear hb31
    obtain ⟨y32, hy32, ha32, hby32⟩ := mk w31 n ((x ||| y ||| z : Nat) : Int)
    replace HB := Lib.hid (stay1 HB.out hby32)
    replace HA := Lib.hid (HA.out.below hby32)
    replace HBb := Lib.hid (HBb.out.below hby32)
    replace HCc := Lib.hid (HCc.out.below hby32)
    replace H7 := Lib.hid (H7.out.below hby32)
    replace H9 := Lib.hid (H9.out.below hby32)
    replace H11 := Lib.hid (H11.out.below hby32)
    replace H13 := Lib.hid (H13.out.below hby32)
    replace H15 := Lib.hid (H15.out.below hby32)
    have H17 := Lib.hid (ha32)
    clear ha32 hby32
    have ha_0 := HA.out.c0
    have ha_1 := HA.out.c1
    rw [hy32] at ha_0 ha_1
    go_wp2_with fail
    rw [← hy32]
    clear hy32
    clear ha_0 ha_1
    refine (or_as n x x x _ HG.out.1 HG.out.1 (Nat.or_self x)).mono ?_
    rintro e w33 ⟨rfl, hb33⟩
    replace HB := Lib.hid (stay1 HB.out hb33)
    replace HA := Lib.hid (HA.out.below hb33)
    replace HBb := Lib.hid (HBb.out.below hb33)
    replace HCc := Lib.hid (HCc.out.below hb33)
    replace H7 := Lib.hid (H7.out.below hb33)
    replace H9 := Lib.hid (H9.out.below hb33)
    replace H11 := Lib.hid (H11.out.below hb33)
    replace H13 := Lib.hid (H13.out.below hb33)
    replace H15 := Lib.hid (H15.out.below hb33)
    replace H17 := Lib.hid (H17.out.below hb33)
    clear hb33
    obtain ⟨y34, hy34, ha34, hby34⟩ := mk w33 n x
    replace HB := Lib.hid (stay1 HB.out hby34)
    replace HA := Lib.hid (HA.out.below hby34)
    replace HBb := Lib.hid (HBb.out.below hby34)
    replace HCc := Lib.hid (HCc.out.below hby34)
    replace H7 := Lib.hid (H7.out.below hby34)
    replace H9 := Lib.hid (H9.out.below hby34)
    replace H11 := Lib.hid (H11.out.below hby34)
    replace H13 := Lib.hid (H13.out.below hby34)
    replace H15 := Lib.hid (H15.out.below hby34)
    replace H17 := Lib.hid (H17.out.below hby34)
    have H19 := Lib.hid (ha34)
    clear ha34 hby34
    have h7_0 := H7.out.c0
    have h7_1 := H7.out.c1
    have ha_0 := HA.out.c0
    have ha_1 := HA.out.c1
    rw [hy34] at h7_0 h7_1 ha_0 ha_1
    go_wp2_with fail
    rw [← hy34]
    clear hy34
    clear h7_0 h7_1 ha_0 ha_1
    refine (or_zero n x _ HG.out.2.2.2.2.2 HG.out.1).mono ?_
    rintro e w35 ⟨rfl, hb35⟩
    replace HB := Lib.hid (stay1 HB.out hb35)
    replace HA := Lib.hid (HA.out.below hb35)
    replace HBb := Lib.hid (HBb.out.below hb35)
    replace HCc := Lib.hid (HCc.out.below hb35)
    replace H7 := Lib.hid (H7.out.below hb35)
    replace H9 := Lib.hid (H9.out.below hb35)
    replace H11 := Lib.hid (H11.out.below hb35)
    replace H13 := Lib.hid (H13.out.below hb35)
    replace H15 := Lib.hid (H15.out.below hb35)
    replace H17 := Lib.hid (H17.out.below hb35)
    replace H19 := Lib.hid (H19.out.below hb35)
    clear hb35
    obtain ⟨y36, hy36, ha36, hby36⟩ := mk w35 n x
    replace HB := Lib.hid (stay1 HB.out hby36)
    replace HA := Lib.hid (HA.out.below hby36)
    replace HBb := Lib.hid (HBb.out.below hby36)
    replace HCc := Lib.hid (HCc.out.below hby36)
    replace H7 := Lib.hid (H7.out.below hby36)
    replace H9 := Lib.hid (H9.out.below hby36)
    replace H11 := Lib.hid (H11.out.below hby36)
    replace H13 := Lib.hid (H13.out.below hby36)
    replace H15 := Lib.hid (H15.out.below hby36)
    replace H17 := Lib.hid (H17.out.below hby36)
    replace H19 := Lib.hid (H19.out.below hby36)
    have H21 := Lib.hid (ha36)
    clear ha36 hby36
    have HCN := Lib.hid (fun w => count_yes n x w HG.out.1)
    have HCM := Lib.hid (fun w => count_yes n y w HG.out.2.1)
    have HCO := Lib.hid (fun w => count_yes n (x ||| y) w HG.out.2.2.2.1)
    have hpo := pcB_or 64 x y
    have hpx := pcB_le 64 x
    have hpy := pcB_le 64 y
    generalize pcB 64 x = pa at *
    generalize pcB 64 y = pb at *
    generalize pcB 64 (x ||| y) = pc at *
    have u1 : decide ((pa : Int) ≤ (pc : Int)) = true := by simp; omega
    have u2 : decide (pa ≤ pc) = true := by simp; omega
    have u3 : IntKind.i64.wrap ((pa : Int) + (pb : Int)) = (pa : Int) + (pb : Int) := by rw [IntKind.wrap_i64]; omega
    have u4 : decide ((pc : Int) ≤ (pa : Int) + (pb : Int)) = true := by simp; omega
    have u5 : decide (pc ≤ pa + pb) = true := by simp; omega
    clear hpo hpx hpy
    go_wp2_with fail
    rw [← hy36]
    clear hy36
    refine Q.wp_region_segs none [([], some 0), ([1, 2, 3, 4, 5, 6, 7, 8, 9, 10, 11, 12, 13, 14, 15, 16, 17, 18, 19, 20, 21, 22, 23, 24, 25, 27], some 26), ([], some 28), ([29, 30, 31, 32, 34, 36], some 33), ([], some 35), ([], some 37), ([38, 39, 40, 41], none)] (by kernel_rfl) (by kernel_rfl) (by kernel_rfl) (by kernel_rfl) ?_
    dsimp only [Q.wpSegs, Q.picks, Q.pick]
    replace HB := Lib.hid (HB.out.drew)
    replace HA := Lib.hid (At.drew HA.out)
    replace HBb := Lib.hid (At.drew HBb.out)
    replace HCc := Lib.hid (At.drew HCc.out)
    replace H7 := Lib.hid (At.drew H7.out)
    replace H9 := Lib.hid (At.drew H9.out)
    replace H11 := Lib.hid (At.drew H11.out)
    replace H13 := Lib.hid (At.drew H13.out)
    replace H15 := Lib.hid (At.drew H15.out)
    replace H17 := Lib.hid (At.drew H17.out)
    replace H19 := Lib.hid (At.drew H19.out)
    replace H21 := Lib.hid (At.drew H21.out)
    refine wpQuiet_nil ?_
    go_wp2_with (go_at_call 15; refine (alive_any _).mono ?_; rintro e w37 ⟨rfl, hb37⟩; (have Hb37 := Lib.hid hb37); clear hb37)
    refine Q.ev_done Hb37.out (Nat.le_refl _) ?_
    replace HB := Lib.hid (stay1 HB.out Hb37.out)
    replace HA := Lib.hid (HA.out.below Hb37.out)
    replace HBb := Lib.hid (HBb.out.below Hb37.out)
    replace HCc := Lib.hid (HCc.out.below Hb37.out)
    replace H7 := Lib.hid (H7.out.below Hb37.out)
    replace H9 := Lib.hid (H9.out.below Hb37.out)
    replace H11 := Lib.hid (H11.out.below Hb37.out)
    replace H13 := Lib.hid (H13.out.below Hb37.out)
    replace H15 := Lib.hid (H15.out.below Hb37.out)
    replace H17 := Lib.hid (H17.out.below Hb37.out)
    replace H19 := Lib.hid (H19.out.below Hb37.out)
    replace H21 := Lib.hid (H21.out.below Hb37.out)
    clear Hb37
    have gH9_0 := fun (m : Q.GW w37 (w37).heap.size none) => (H9.out.below m.below).c0
    have gH9_1 := fun (m : Q.GW w37 (w37).heap.size none) => (H9.out.below m.below).c1
    have gH11_0 := fun (m : Q.GW w37 (w37).heap.size none) => (H11.out.below m.below).c0
    have gH11_1 := fun (m : Q.GW w37 (w37).heap.size none) => (H11.out.below m.below).c1
    have gH13_0 := fun (m : Q.GW w37 (w37).heap.size none) => (H13.out.below m.below).c0
    have gH13_1 := fun (m : Q.GW w37 (w37).heap.size none) => (H13.out.below m.below).c1
    have gH17_0 := fun (m : Q.GW w37 (w37).heap.size none) => (H17.out.below m.below).c0
    have gH17_1 := fun (m : Q.GW w37 (w37).heap.size none) => (H17.out.below m.below).c1
    have gH19_0 := fun (m : Q.GW w37 (w37).heap.size none) => (H19.out.below m.below).c0
    have gH19_1 := fun (m : Q.GW w37 (w37).heap.size none) => (H19.out.below m.below).c1
    have gHA_0 := fun (m : Q.GW w37 (w37).heap.size none) => (HA.out.below m.below).c0
    have gHA_1 := fun (m : Q.GW w37 (w37).heap.size none) => (HA.out.below m.below).c1
    have gH21_0 := fun (m : Q.GW w37 (w37).heap.size none) => (H21.out.below m.below).c0
    have gH21_1 := fun (m : Q.GW w37 (w37).heap.size none) => (H21.out.below m.below).c1
    repeat (go_big_quiet_step (fail))
    refine wpQuiet_nil ?_
    clear gH9_0 gH9_1 gH11_0 gH11_1 gH13_0 gH13_1 gH17_0 gH17_1 gH19_0 gH19_1 gHA_0 gHA_1 gH21_0 gH21_1
    go_wp2_with (go_at_call 46; refine (HCO.out _).mono ?_; rintro e w38 ⟨rfl, hb38⟩; (have Hb38 := Lib.hid hb38); clear hb38)
    refine Q.ev_done Hb38.out (Nat.le_refl _) ?_
    replace HB := Lib.hid (stay1 HB.out Hb38.out)
    replace HA := Lib.hid (HA.out.below Hb38.out)
    replace HBb := Lib.hid (HBb.out.below Hb38.out)
    replace HCc := Lib.hid (HCc.out.below Hb38.out)
    replace H7 := Lib.hid (H7.out.below Hb38.out)
    replace H9 := Lib.hid (H9.out.below Hb38.out)
    replace H11 := Lib.hid (H11.out.below Hb38.out)
    replace H13 := Lib.hid (H13.out.below Hb38.out)
    replace H15 := Lib.hid (H15.out.below Hb38.out)
    replace H17 := Lib.hid (H17.out.below Hb38.out)
    replace H19 := Lib.hid (H19.out.below Hb38.out)
    replace H21 := Lib.hid (H21.out.below Hb38.out)
    clear Hb38
    refine wpQuiet_nil ?_
    go_wp2_with (go_at_call 46; refine (HCN.out _).mono ?_; rintro e w39 ⟨rfl, hb39⟩; (have Hb39 := Lib.hid hb39); clear hb39)
    refine Q.ev_done Hb39.out (Nat.le_refl _) ?_
    replace HB := Lib.hid (stay1 HB.out Hb39.out)
    replace HA := Lib.hid (HA.out.below Hb39.out)
    replace HBb := Lib.hid (HBb.out.below Hb39.out)
    replace HCc := Lib.hid (HCc.out.below Hb39.out)
    replace H7 := Lib.hid (H7.out.below Hb39.out)
    replace H9 := Lib.hid (H9.out.below Hb39.out)
    replace H11 := Lib.hid (H11.out.below Hb39.out)
    replace H13 := Lib.hid (H13.out.below Hb39.out)
    replace H15 := Lib.hid (H15.out.below Hb39.out)
    replace H17 := Lib.hid (H17.out.below Hb39.out)
    replace H19 := Lib.hid (H19.out.below Hb39.out)
    replace H21 := Lib.hid (H21.out.below Hb39.out)
    clear Hb39
    have gH9_0 := fun (m : Q.GW w39 (w39).heap.size none) => (H9.out.below m.below).c0
    have gH9_1 := fun (m : Q.GW w39 (w39).heap.size none) => (H9.out.below m.below).c1
    have gHA_0 := fun (m : Q.GW w39 (w39).heap.size none) => (HA.out.below m.below).c0
    have gHA_1 := fun (m : Q.GW w39 (w39).heap.size none) => (HA.out.below m.below).c1
    have gHBb_0 := fun (m : Q.GW w39 (w39).heap.size none) => (HBb.out.below m.below).c0
    have gHBb_1 := fun (m : Q.GW w39 (w39).heap.size none) => (HBb.out.below m.below).c1
    repeat (go_big_quiet_step (fail))
    refine wpQuiet_nil ?_
    clear gH9_0 gH9_1 gHA_0 gHA_1 gHBb_0 gHBb_1
    go_wp2_with (go_at_call 46; refine (HCO.out _).mono ?_; rintro e w40 ⟨rfl, hb40⟩; (have Hb40 := Lib.hid hb40); clear hb40)
    refine Q.ev_done Hb40.out (Nat.le_refl _) ?_
    replace HB := Lib.hid (stay1 HB.out Hb40.out)
    replace HA := Lib.hid (HA.out.below Hb40.out)
    replace HBb := Lib.hid (HBb.out.below Hb40.out)
    replace HCc := Lib.hid (HCc.out.below Hb40.out)
    replace H7 := Lib.hid (H7.out.below Hb40.out)
    replace H9 := Lib.hid (H9.out.below Hb40.out)
    replace H11 := Lib.hid (H11.out.below Hb40.out)
    replace H13 := Lib.hid (H13.out.below Hb40.out)
    replace H15 := Lib.hid (H15.out.below Hb40.out)
    replace H17 := Lib.hid (H17.out.below Hb40.out)
    replace H19 := Lib.hid (H19.out.below Hb40.out)
    replace H21 := Lib.hid (H21.out.below Hb40.out)
    clear Hb40
    refine wpQuiet_nil ?_
    go_wp2_with (go_at_call 46; refine (HCN.out _).mono ?_; rintro e w41 ⟨rfl, hb41⟩; (have Hb41 := Lib.hid hb41); clear hb41)
    refine Q.ev_done Hb41.out (Nat.le_refl _) ?_
    replace HB := Lib.hid (stay1 HB.out Hb41.out)
    replace HA := Lib.hid (HA.out.below Hb41.out)
    replace HBb := Lib.hid (HBb.out.below Hb41.out)
    replace HCc := Lib.hid (HCc.out.below Hb41.out)
    replace H7 := Lib.hid (H7.out.below Hb41.out)
    replace H9 := Lib.hid (H9.out.below Hb41.out)
    replace H11 := Lib.hid (H11.out.below Hb41.out)
    replace H13 := Lib.hid (H13.out.below Hb41.out)
    replace H15 := Lib.hid (H15.out.below Hb41.out)
    replace H17 := Lib.hid (H17.out.below Hb41.out)
    replace H19 := Lib.hid (H19.out.below Hb41.out)
    replace H21 := Lib.hid (H21.out.below Hb41.out)
    clear Hb41
    refine wpQuiet_nil ?_
    go_wp2_with (go_at_call 46; refine (HCM.out _).mono ?_; rintro e w42 ⟨rfl, hb42⟩; (have Hb42 := Lib.hid hb42); clear hb42)
    refine Q.ev_done Hb42.out (Nat.le_refl _) ?_
    replace HB := Lib.hid (stay1 HB.out Hb42.out)
    replace HA := Lib.hid (HA.out.below Hb42.out)
    replace HBb := Lib.hid (HBb.out.below Hb42.out)
    replace HCc := Lib.hid (HCc.out.below Hb42.out)
    replace H7 := Lib.hid (H7.out.below Hb42.out)
    replace H9 := Lib.hid (H9.out.below Hb42.out)
    replace H11 := Lib.hid (H11.out.below Hb42.out)
    replace H13 := Lib.hid (H13.out.below Hb42.out)
    replace H15 := Lib.hid (H15.out.below Hb42.out)
    replace H17 := Lib.hid (H17.out.below Hb42.out)
    replace H19 := Lib.hid (H19.out.below Hb42.out)
    replace H21 := Lib.hid (H21.out.below Hb42.out)
    clear Hb42
    repeat (go_big_quiet_step (fail))
    refine wpQuiet_nil ?_
    refine NoPanic.normal ?_
    go_wp2
    go_ret
    exact ⟨rfl, HB.out⟩
end Go.Proofs.Ytigbmbmngkmdlaa.Bm
