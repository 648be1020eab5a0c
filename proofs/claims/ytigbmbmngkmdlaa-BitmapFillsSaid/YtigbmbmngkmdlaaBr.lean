/-
  bitmap: Full; plain laws on what is there.
-/
import Derived.Test.YtigbmbmngkmdlaaBp
import Derived.Test.YtigbmbmngkmdlaaBq
import Derived.Test.YtigbmbmngkmdlaaBf
import Derived.Test.YtigbmbmngkmdlaaBn
namespace Go.Proofs.Ytigbmbmngkmdlaa.Bm
open Go.RowKit Go.Proofs.Ytigbmbmngkmdlaa.L Go.Proofs.Ytigbmbmngkmdlaa.Bt Go.Proofs.YtigbmbmngkmdlaaW.PrintWords

def fullB (n : Int) (x : Nat) : Bool := rgt n x && (x == 2 ^ n.toNat - 1)
set_option maxHeartbeats 800000 in
set_option maxRecDepth 100000 in
theorem full_any (n : Int) (x : Nat) (w : World) (hx : x < 2 ^ 64) : Calls Try.prog 49 #[.agg #[.int .i64 n, .int .u64 x]] w fun e w' => e = .returned (.bool (fullB n x)) ∧ Below w.heap.size w w' := by
  have hu := Try.underlying24
  have HR := Lib.hid (fun w => right_any n x w hx)
  obtain ⟨wb, hwb, ha, hbel⟩ := mk w n x
  have HB := Lib.hid hbel
  have HA := Lib.hid ha
  clear ha hbel
  unfold fullB
  cases h1 : rgt n x
  · rw [h1] at HR
    go_enter Try.func49, Try.ntmps49
    go_wp2_with fail
    rw [← hwb]
    clear hwb
    refine Q.wp_region_segs none [([0], some 1), ([2, 3, 4, 5, 6], some 7), ([8, 9, 10, 11], none)] (by kernel_rfl) (by kernel_rfl) (by kernel_rfl) (by kernel_rfl) ?_
    dsimp only [Q.wpSegs, Q.picks, Q.pick]
    replace HB := Lib.hid (HB.out.drew)
    replace HA := Lib.hid (At.drew HA.out)
    have gHA_0 := fun (m : Q.GW (wb).drew wb.heap.size none) => (HA.out.below m.below).c0
    have gHA_1 := fun (m : Q.GW (wb).drew wb.heap.size none) => (HA.out.below m.below).c1
    repeat (go_big_quiet_step (fail))
    refine wpQuiet_nil ?_
    clear gHA_0 gHA_1
    go_wp2_with (go_at_call 43; refine (HR.out _).mono ?_; rintro e w1 ⟨rfl, hb1⟩; (have Hb1 := Lib.hid hb1); clear hb1)
    refine Q.ev_done Hb1.out (Nat.le_refl _) ?_
    replace HB := Lib.hid (stay1 HB.out Hb1.out)
    replace HA := Lib.hid (HA.out.below Hb1.out)
    clear Hb1
    repeat (go_big_quiet_step (fail))
    refine wpQuiet_nil ?_
    go_wp2_with fail
    refine Q.ev_done (Below.refl _ _) (Nat.le_refl _) ?_
    repeat (go_big_quiet_step (fail))
    refine wpQuiet_nil ?_
    refine NoPanic.normal ?_
    go_wp2
    go_ret
    exact ⟨rfl, HB.out⟩
  · rw [h1] at HR
    have hn := (ofR_yes h1).2.2
    have HAl := Lib.hid (fun w => all_any n x w hn.1 hn.2)
    have hb : (((x : Nat) : Int) == ((2 ^ n.toNat - 1 : Nat) : Int)) = (x == 2 ^ n.toNat - 1) := by
      rw [Bool.eq_iff_iff]; simp; omega
    rw [Bool.true_and, ← hb]
    clear hb hn h1
    generalize ((2 ^ n.toNat - 1 : Nat) : Int) = q at HAl
    by_cases hq : (x : Int) = q
    · subst hq
      rw [show ((x : Int) == (x : Int)) = true from by simp]
      go_enter Try.func49, Try.ntmps49
      go_wp2_with fail
      rw [← hwb]
      clear hwb
      refine Q.wp_region_segs none [([0], some 1), ([2, 3, 4, 5, 6], some 7), ([8, 9, 10, 11], none)] (by kernel_rfl) (by kernel_rfl) (by kernel_rfl) (by kernel_rfl) ?_
      dsimp only [Q.wpSegs, Q.picks, Q.pick]
      replace HB := Lib.hid (HB.out.drew)
      replace HA := Lib.hid (At.drew HA.out)
      have gHA_0 := fun (m : Q.GW (wb).drew wb.heap.size none) => (HA.out.below m.below).c0
      have gHA_1 := fun (m : Q.GW (wb).drew wb.heap.size none) => (HA.out.below m.below).c1
      repeat (go_big_quiet_step (fail))
      refine wpQuiet_nil ?_
      clear gHA_0 gHA_1
      go_wp2_with (go_at_call 43; refine (HR.out _).mono ?_; rintro e w1 ⟨rfl, hb1⟩; (have Hb1 := Lib.hid hb1); clear hb1)
      refine Q.ev_done Hb1.out (Nat.le_refl _) ?_
      replace HB := Lib.hid (stay1 HB.out Hb1.out)
      replace HA := Lib.hid (HA.out.below Hb1.out)
      clear Hb1
      have gHA_0 := fun (m : Q.GW w1 w1.heap.size none) => (HA.out.below m.below).c0
      have gHA_1 := fun (m : Q.GW w1 w1.heap.size none) => (HA.out.below m.below).c1
      repeat (go_big_quiet_step (fail))
      refine wpQuiet_nil ?_
      clear gHA_0 gHA_1
      go_wp2_with (go_at_call 63; refine (HAl.out _).mono ?_; rintro e w2 ⟨rfl, hb2⟩; (have Hb2 := Lib.hid hb2); clear hb2)
      refine Q.ev_done Hb2.out (Nat.le_refl _) ?_
      replace HB := Lib.hid (stay1 HB.out Hb2.out)
      replace HA := Lib.hid (HA.out.below Hb2.out)
      clear Hb2
      repeat (go_big_quiet_step (fail))
      refine wpQuiet_nil ?_
      refine NoPanic.normal ?_
      go_wp2
      go_ret
      exact ⟨rfl, HB.out⟩
    · have hb : ((x : Int) == q) = false := by simpa using hq
      rw [hb]
      go_enter Try.func49, Try.ntmps49
      go_wp2_with fail
      rw [← hwb]
      clear hwb
      refine Q.wp_region_segs none [([0], some 1), ([2, 3, 4, 5, 6], some 7), ([8, 9, 10, 11], none)] (by kernel_rfl) (by kernel_rfl) (by kernel_rfl) (by kernel_rfl) ?_
      dsimp only [Q.wpSegs, Q.picks, Q.pick]
      replace HB := Lib.hid (HB.out.drew)
      replace HA := Lib.hid (At.drew HA.out)
      have gHA_0 := fun (m : Q.GW (wb).drew wb.heap.size none) => (HA.out.below m.below).c0
      have gHA_1 := fun (m : Q.GW (wb).drew wb.heap.size none) => (HA.out.below m.below).c1
      repeat (go_big_quiet_step (fail))
      refine wpQuiet_nil ?_
      clear gHA_0 gHA_1
      go_wp2_with (go_at_call 43; refine (HR.out _).mono ?_; rintro e w1 ⟨rfl, hb1⟩; (have Hb1 := Lib.hid hb1); clear hb1)
      refine Q.ev_done Hb1.out (Nat.le_refl _) ?_
      replace HB := Lib.hid (stay1 HB.out Hb1.out)
      replace HA := Lib.hid (HA.out.below Hb1.out)
      clear Hb1
      have gHA_0 := fun (m : Q.GW w1 w1.heap.size none) => (HA.out.below m.below).c0
      have gHA_1 := fun (m : Q.GW w1 w1.heap.size none) => (HA.out.below m.below).c1
      repeat (go_big_quiet_step (fail))
      refine wpQuiet_nil ?_
      clear gHA_0 gHA_1
      go_wp2_with (go_at_call 63; refine (HAl.out _).mono ?_; rintro e w2 ⟨rfl, hb2⟩; (have Hb2 := Lib.hid hb2); clear hb2)
      refine Q.ev_done Hb2.out (Nat.le_refl _) ?_
      replace HB := Lib.hid (stay1 HB.out Hb2.out)
      replace HA := Lib.hid (HA.out.below Hb2.out)
      clear Hb2
      repeat (go_big_quiet_step (fail))
      refine wpQuiet_nil ?_
      refine NoPanic.normal ?_
      go_wp2
      go_ret
      exact ⟨rfl, HB.out⟩
theorem pcB_full : ∀ {k x : Nat}, x < 2 ^ k → (x = 2 ^ k - 1 ↔ pcB k x = k)
  | 0, x, h => by
    have : x = 0 := by simpa using h
    subst this
    simp [pcB]
  | k + 1, x, h => by
    have h2 : x / 2 < 2 ^ k := by rw [Nat.pow_succ] at h; omega
    have ih := pcB_full h2
    have hp := Nat.two_pow_pos k
    have hle := pcB_le k (x / 2)
    simp only [pcB]
    rw [Nat.pow_succ]
    constructor
    · intro he
      have h3 : x / 2 = 2 ^ k - 1 := by omega
      have := ih.1 h3
      omega
    · intro he
      have h3 : pcB k (x / 2) = k := by omega
      have := ih.2 h3
      omega
theorem pcB_64 {n : Int} {x : Nat} (h : rgt n x = true) : pcB 64 x = pcB n.toNat x := by
  obtain ⟨_, h2, h3, h4⟩ := ofR_yes h
  have := pcB_lt h2 (64 - n.toNat)
  rwa [show n.toNat + (64 - n.toNat) = 64 from by omega] at this
theorem gone_mono (x : Nat) : ∀ {m k : Nat}, m ≤ k → (gone x m).length ≤ (gone x k).length
  | m, 0, h => by obtain rfl : m = 0 := by omega
                  exact Nat.le_refl _
  | m, k + 1, h => by
    rcases Nat.lt_or_ge m (k + 1) with h1 | h1
    · have := gone_mono x (m := m) (k := k) (by omega)
      cases hb : x.testBit k
      · rw [gone_no hb]; simp; omega
      · rw [gone_yes hb]; exact this
    · obtain rfl : m = k + 1 := by omega
      exact Nat.le_refl _
theorem gone_at {x j : Nat} (hb : x.testBit j = false) : ∀ {k : Nat}, j < k → (gone x j).length < (gone x k).length ∧ (gone x k).getD (gone x j).length 0 = (j : Int)
  | 0, h => by omega
  | k + 1, h => by
    rcases Nat.lt_or_ge j k with h1 | h1
    · obtain ⟨h2, h3⟩ := gone_at hb h1
      cases hk : x.testBit k
      · rw [gone_no hk]
        refine ⟨by simp; omega, ?_⟩
        rw [List.getD_eq_getElem?_getD, List.getElem?_append_left h2, ← List.getD_eq_getElem?_getD, h3]
      · rw [gone_yes hk]; exact ⟨h2, h3⟩
    · obtain rfl : j = k := by omega
      rw [gone_no hb]
      refine ⟨by simp, ?_⟩
      rw [List.getD_eq_getElem?_getD, List.getElem?_append_right (Nat.le_refl _)]
      simp
theorem or_bit_self {x j : Nat} (h : x.testBit j = true) : x ||| 2 ^ j = x := by
  apply Nat.eq_of_testBit_eq
  intro i
  rw [Nat.testBit_or, Nat.testBit_two_pow]
  by_cases hij : j = i
  · subst hij; simp [h]
  · simp [hij]
theorem with_in {n : Int} {x j : Nat} (h : rgt n x = true) (hj : (j : Int) < n) : withR n x j = (n, x ||| 2 ^ j, 0) ∧ rgt n (x ||| 2 ^ j) = true ∧ hasB n (x ||| 2 ^ j) j = true := by
  obtain ⟨_, h2, h3, h4⟩ := ofR_yes h
  have hr : rgt n (x ||| 2 ^ j) = true := by
    simp [rgt]
    exact ⟨⟨h3, h4⟩, Nat.or_lt_two_pow h2 (Nat.pow_lt_pow_right (by decide) (by omega))⟩
  refine ⟨?_, hr, ?_⟩
  · have a1 : decide ((j : Int) < 0) = false := by simp
    have a2 : decide (n ≤ (j : Int)) = false := by simp; omega
    simp only [withR, h, a1, a2, if_true, Bool.false_eq_true, if_false, Int.toNat_natCast]
  · have a1 : decide ((0 : Int) ≤ (j : Int)) = true := by simp
    have a2 : decide ((j : Int) < n) = true := by simpa using hj
    simp [hasB, hr, a2, Nat.testBit_or]
theorem with_out {n i : Int} {x : Nat} (h : rgt n x = true) (hi : i < 0 ∨ n ≤ i) : withR n x i = (0, 0, 1) ∧ hasB n x i = false := by
  constructor
  · unfold withR
    rw [h, if_pos rfl]
    by_cases h1 : i < 0
    · simp [h1]
    · have h2 : n ≤ i := by omega
      simp [h1, h2]
  · unfold hasB
    by_cases h1 : 0 ≤ i
    · have h2 : ¬ i < n := by omega
      simp [h2]
    · simp [h1]
/-- the truths behind m rounds of 'or' -/
def mixL (x y N m : Nat) : List Bool := (List.range N).map (fun i => if i < m then (x ||| y).testBit i else x.testBit i)
theorem mixL_len (x y N m : Nat) : (mixL x y N m).length = N := by simp [mixL]
theorem mixL_0 (x y N : Nat) : mixL x y N 0 = bitsL x N := by simp [mixL, bitsL]
theorem mixL_end (x y N : Nat) : mixL x y N N = bitsL (x ||| y) N := by
  unfold mixL bitsL
  apply List.map_congr_left
  intro i hi
  simp [List.mem_range.1 hi]
theorem mixL_get (x y N m : Nat) (h : m < N) : rdOf false (mixL x y N m) (m : Int) = x.testBit m := by
  unfold rdOf
  simp [mixL, h]
theorem mixL_set (x y N m : Nat) : (mixL x y N m).set m (x.testBit m || y.testBit m) = mixL x y N (m + 1) := by
  apply List.ext_getElem (by simp [mixL])
  intro i h1 h2
  have hi : i < N := by simpa [mixL] using h1
  rw [List.getElem_set]
  by_cases hm : m = i
  · subst hm
    simp [mixL, Nat.testBit_or]
  · rw [if_neg hm]
    simp only [mixL, List.getElem_map, List.getElem_range]
    by_cases h3 : i < m
    · rw [if_pos h3, if_pos (by omega)]
    · rw [if_neg h3, if_neg (by omega)]
end Go.Proofs.Ytigbmbmngkmdlaa.Bm
