/-
  bitmap: Write, Read.
-/
import Derived.Test.YtigbmbmngkmdlaaBb
import Derived.Test.YtigbmbmngkmdlaaVa
namespace Go.Proofs.Ytigbmbmngkmdlaa.Bm
open Go.RowKit Go.Proofs.Ytigbmbmngkmdlaa.L Go.Proofs.Ytigbmbmngkmdlaa.Bt Go.Proofs.YtigbmbmngkmdlaaW.PrintWords

theorem info_u8 : (Try.prog.info? 5).map (fun i => (i.zero, i.size, i.bytes)) = some (some (.int .u8 0), 1, 1) := by kernel_rfl
/-- a map's bytes -/
def putM (n : Nat) (x : Nat) : List Int := (n : Int) :: (List.range ((n + 7) / 8)).map (fun i => ((x / 2 ^ (8 * i) % 256 : Nat) : Int))

set_option maxHeartbeats 400000 in
set_option maxRecDepth 100000 in
theorem write_ok (n x : Nat) (w : World) (hr : rgt n x = true) : Calls Try.prog 17 #[.agg #[.int .i64 n, .int .u64 x]] w fun e w' => ∃ v0 : Value, e = .returned (.tuple #[v0, .int .i64 0]) ∧ (Kd.int .u8).R 5 w' w.heap.size (fun _ => True) v0 (putM n x) ∧ Below w.heap.size w w' := by
  obtain ⟨hn, hx⟩ : n ≤ 64 ∧ x < 2 ^ 64 := by
    simp [rgt] at hr
    have : 2 ^ n ≤ 2 ^ 64 := Nat.pow_le_pow_right (by decide) (by omega)
    omega
  have hR := fun w => right_any n x w hx
  rw [hr] at hR
  have HR := Lib.hid hR
  have hw := At.new w n x
  have hbel := (Below.refl w.heap.size w).alloc (Nat.le_refl _) (.cells #[.int .i64 n, .int .u64 x] 24)
  obtain ⟨wb, hwb⟩ : ∃ wb, wb = w.alloc (.cells #[.int .i64 n, .int .u64 x] 24) := ⟨_, rfl⟩
  rw [← hwb] at hw hbel
  have HB := Lib.hid hbel
  have HW := Lib.hid hw
  have k0 := hw.c0
  have k1 := hw.c1
  clear hw hbel hR hr
  go_enter Try.func17, Try.ntmps17
  go_wp2_with fail
  rw [← hwb]
  clear hwb
  refine (HR.out _).mono ?_
  rintro e w1 ⟨rfl, hb1⟩
  have HB1 := Lib.hid (stay1 HB.out hb1)
  have HW1 := Lib.hid (HW.out.below hb1)
  have q0 := HW1.out.c0
  have q1 := HW1.out.c1
  clear hb1
  obtain ⟨w2, hw2⟩ : ∃ w2, w2 = w1.alloc (.cells #[.int .u8 n] 5) := ⟨_, rfl⟩
  have hb2 : Below w1.heap.size w1 w2 := by rw [hw2]; exact (Below.refl _ _).alloc (Nat.le_refl _) _
  have HO := Lib.hid (show (Kd.int .u8).R 5 w2 w1.heap.size (fun _ => True) (.slice (some ⟨w1.heap.size, 0, none⟩) 1 1) [(n : Int)] from by
    rw [hw2]; exact R_of_blk (b := w1.heap.size) (l := [(n : Int)]) (heap_alloc_new w1 _) (Nat.le_refl _) (by simp [maxLen]))
  have HB2 := Lib.hid hb2
  have HW2 := Lib.hid (HW1.out.below hb2)
  have r0 := HW2.out.c0
  have r1 := HW2.out.c1
  rw [hw2] at r0 r1
  clear hb2
  go_wp2_with fail
  rw [← hw2]
  clear hw2 r0 r1 q0 q1 k0 k1
  rw [show ((n : Int) + 7) / 8 = (((n + 7) / 8 : Nat) : Int) from by omega]
  obtain ⟨c, hcc⟩ : ∃ c, (n + 7) / 8 = c := ⟨_, rfl⟩
  have HPM := Lib.hid (show putM n x = (n : Int) :: (List.range c).map (fun i => ((x / 2 ^ (8 * i) % 256 : Nat) : Int)) from by unfold putM; rw [hcc])
  have hc : c ≤ 8 := by omega
  rw [hcc]
  clear hcc
  go_loopg [4, 17] (c + 1) (fun g v4 v17 w' => ∃ m : Nat, v17 = .int .i64 m ∧ Hid (m ≤ c ∧ c < g + m) ∧ Hid ((Kd.int .u8).R 5 w' w1.heap.size (fun _ => True) v4 ((n : Int) :: (List.range m).map (fun i => ((x / 2 ^ (8 * i) % 256 : Nat) : Int)))) ∧ Hid (Below w1.heap.size w1 w'))
  case atStart => exact ⟨0, rfl, Lib.hid ⟨by omega, by omega⟩, HO, HB2⟩
  case round =>
    obtain ⟨m, rfl, HJ, HR, HBr⟩ := hrel
    cases gk with
    | zero => have := HJ.out; omega
    | succ g =>
      obtain ⟨hj1, hj2⟩ := HJ.out
      clear HJ
      by_cases hlt : m < c
      · have q1 := (HW1.out.below HBr.out).c1
        go_wp2_with (at_builtin; refine app1 (w0 := w1) .u8 w1.heap.size (.tmp 20) (.tmp 27) 25 5 1 rfl rfl Try.underlying25 info_u8 (by decide) u4 _ ((x : Int) / 2 ^ (8 * m) % 256) rfl rfl HR.out HBr.out HBr.out.size (by simp; omega) ?_; intro v2 w3 ho2 hb2 _; (have HB3 := Lib.hid hb2); (have HR3 := Lib.hid ho2); clear ho2 hb2)
        go_roundg g
        case measure => omega
        case rel => exact ⟨m + 1, by go_num, Lib.hid ⟨by omega, by omega⟩, Lib.hid (by rw [List.range_succ]; simpa using HR3.out), HB3⟩
      · have hmc : m = c := by omega
        subst hmc
        go_wp2
        go_ret2
        exact ⟨_, rfl, by rw [HPM.out]; exact Kd.R_lower HR.out HB1.out.size, stay1 HB1.out HBr.out⟩
set_option maxHeartbeats 400000 in
set_option maxRecDepth 100000 in
theorem write_no (n : Int) (x : Nat) (w : World) (hx : x < 2 ^ 64) (hr : rgt n x = false) : Calls Try.prog 17 #[.agg #[.int .i64 n, .int .u64 x]] w fun e w' => e = .returned (.tuple #[.slice none 0 0, .int .i64 3]) ∧ Below w.heap.size w w' := by
  have hR := fun w => right_any n x w hx
  rw [hr] at hR
  have HR := Lib.hid hR
  have hw := At.new w n x
  have hbel := (Below.refl w.heap.size w).alloc (Nat.le_refl _) (.cells #[.int .i64 n, .int .u64 x] 24)
  obtain ⟨wb, hwb⟩ : ∃ wb, wb = w.alloc (.cells #[.int .i64 n, .int .u64 x] 24) := ⟨_, rfl⟩
  rw [← hwb] at hw hbel
  have HB := Lib.hid hbel
  have k0 := hw.c0
  have k1 := hw.c1
  clear hw hbel hR hr
  go_enter Try.func17, Try.ntmps17
  go_wp2_with fail
  rw [← hwb]
  clear hwb
  refine (HR.out _).mono ?_
  rintro e w1 ⟨rfl, hb1⟩
  have HB1 := Lib.hid (stay1 HB.out hb1)
  clear hb1
  go_wp2
  go_ret2
  exact ⟨rfl, HB1.out⟩
/-- what Write hands back -/
def wrM (n : Int) (x : Nat) : List Int := if rgt n x then putM n.toNat x else []
def wrE (n : Int) (x : Nat) : Int := if rgt n x then 0 else 3
theorem write_any (n : Int) (x : Nat) (w : World) (hx : x < 2 ^ 64) : Calls Try.prog 17 #[.agg #[.int .i64 n, .int .u64 x]] w fun e w' => ∃ v0 : Value, e = .returned (.tuple #[v0, .int .i64 (wrE n x)]) ∧ (Kd.int .u8).R 5 w' w.heap.size (fun _ => True) v0 (wrM n x) ∧ Below w.heap.size w w' := by
  unfold wrM wrE
  cases h : rgt n x
  · refine (write_no n x w hx h).mono fun e w' hh => ⟨_, hh.1, Kd.R_nil _ _ _ _ _, hh.2⟩
  · have h0 : 0 ≤ n := by simp [rgt] at h; exact h.1.1
    obtain ⟨k, rfl⟩ := Int.eq_ofNat_of_zero_le h0
    exact write_ok k x w h

end Go.Proofs.Ytigbmbmngkmdlaa.Bm
