/-
  sha: small functions: begin, constants, turn, word.
-/
import Derived.Test.YtagfplcafeblbaaHa
import Derived.Test.YtagfplcafeblbaaL
namespace Go.Proofs.Ytagfplcafeblbaa.H
open Go.RowKit Go.Proofs.Ytagfplcafeblbaa.L Go.Proofs.YtagfplcafeblbaaW.PrintWords

def u32s (l : List Nat) : Array Value := (l.map (fun x : Nat => Value.int .u32 (x : Int))).toArray
set_option maxRecDepth 100000 in
set_option maxHeartbeats 800000 in
theorem begin_any (w : World) : Calls Try.prog 40 #[] w fun e w' => e = .returned (.agg (u32s begN)) ∧ Below w.heap.size w w' := by
  go_enter Try.func40, Try.ntmps40
  go_wp2_with fail
  go_outline
  exact bodyPost_ret (v := .agg (u32s begN)) (by simp [results, Try.results40, go_sem, u32s, begN]) rfl ⟨rfl, (Below.refl _ _).alloc (Nat.le_refl _) _⟩
theorem rot_or (x n : Nat) (h1 : 1 ≤ n) (h2 : n ≤ 31) (hx : x < 4294967296) : bits .or .u32 (((x * 2 ^ (32 - n) % 4294967296 : Nat) : Int)) ((x / 2 ^ n : Nat) : Int) = ((rot x n : Nat) : Int) := by
  have e : (4294967296 : Nat) = 2 ^ n * 2 ^ (32 - n) := by
    rw [← Nat.pow_add, show n + (32 - n) = 32 from by omega]
  have e2 : x * 2 ^ (32 - n) % 4294967296 = (x % 2 ^ n) * 2 ^ (32 - n) := by
    rw [e, Nat.mul_mod_mul_right]
  have hlo : x / 2 ^ n < 2 ^ (32 - n) := Nat.div_lt_of_lt_mul (by rw [← e]; exact hx)
  have hhi : x * 2 ^ (32 - n) % 4294967296 < 4294967296 := Nat.mod_lt _ (by decide)
  have hle : x / 2 ^ n < 4294967296 := Nat.lt_of_le_of_lt (Nat.div_le_self _ _) hx
  rw [e2] at hhi ⊢
  have hm : ((x % 2 ^ n) * 2 ^ (32 - n)) % 2 ^ (32 - n) = 0 := Nat.mul_mod_left _ _
  generalize hA : (x % 2 ^ n) * 2 ^ (32 - n) = hi at hhi hm ⊢
  generalize hB : x / 2 ^ n = lo at hlo hle ⊢
  have := bits_join .u32 32 (by decide) wraps_u32 (32 - n) (hi : Int) (lo : Int) (by omega) (by exact_mod_cast hm) (by omega) (by omega) (by exact_mod_cast hlo) (by omega)
  rw [this]
  unfold rot
  rw [hA, hB]
  omega
set_option maxRecDepth 100000 in
set_option maxHeartbeats 800000 in
theorem rotl2 (x : Nat) (w : World) (hx : x < 4294967296) : Calls Try.prog 64 #[.int .u32 (x : Int), .int .i64 (-2)] w fun e w' => e = .returned (.int .u32 (rot x 2 : Nat)) ∧ w' = w := by
  have hx0 : (0 : Int) ≤ (x : Int) := by omega
  have r0 : bits BinOp.and IntKind.u64 (IntKind.u64.wrap (-2)) 31 = 30 := by kernel_rfl
  have HR := Lib.hid (rot_or x 2 (by decide) (by decide) hx)
  go_enter Try.func64, Try.ntmps64
  go_wp2_with fail
  go_ret
  exact ⟨by rw [← HR.out]; simp, rfl⟩
set_option maxRecDepth 100000 in
theorem turn2 (x : Nat) (w : World) (hx : x < 4294967296) : Calls Try.prog 55 #[.int .u32 (x : Int), .int .i64 2] w fun e w' => e = .returned (.int .u32 (rot x 2 : Nat)) ∧ w' = w := by
  have H := Lib.hid (rotl2 x w hx)
  go_enter Try.func55, Try.ntmps55
  go_wp2_with fail
  refine H.out.mono ?_
  rintro e w1 ⟨rfl, h1⟩
  rw [h1]
  go_wp2_with fail
  go_ret
  exact ⟨rfl, rfl⟩
set_option maxRecDepth 100000 in
set_option maxHeartbeats 800000 in
theorem rotl6 (x : Nat) (w : World) (hx : x < 4294967296) : Calls Try.prog 64 #[.int .u32 (x : Int), .int .i64 (-6)] w fun e w' => e = .returned (.int .u32 (rot x 6 : Nat)) ∧ w' = w := by
  have hx0 : (0 : Int) ≤ (x : Int) := by omega
  have r0 : bits BinOp.and IntKind.u64 (IntKind.u64.wrap (-6)) 31 = 26 := by kernel_rfl
  have HR := Lib.hid (rot_or x 6 (by decide) (by decide) hx)
  go_enter Try.func64, Try.ntmps64
  go_wp2_with fail
  go_ret
  exact ⟨by rw [← HR.out]; simp, rfl⟩
set_option maxRecDepth 100000 in
theorem turn6 (x : Nat) (w : World) (hx : x < 4294967296) : Calls Try.prog 55 #[.int .u32 (x : Int), .int .i64 6] w fun e w' => e = .returned (.int .u32 (rot x 6 : Nat)) ∧ w' = w := by
  have H := Lib.hid (rotl6 x w hx)
  go_enter Try.func55, Try.ntmps55
  go_wp2_with fail
  refine H.out.mono ?_
  rintro e w1 ⟨rfl, h1⟩
  rw [h1]
  go_wp2_with fail
  go_ret
  exact ⟨rfl, rfl⟩
set_option maxRecDepth 100000 in
set_option maxHeartbeats 800000 in
theorem rotl7 (x : Nat) (w : World) (hx : x < 4294967296) : Calls Try.prog 64 #[.int .u32 (x : Int), .int .i64 (-7)] w fun e w' => e = .returned (.int .u32 (rot x 7 : Nat)) ∧ w' = w := by
  have hx0 : (0 : Int) ≤ (x : Int) := by omega
  have r0 : bits BinOp.and IntKind.u64 (IntKind.u64.wrap (-7)) 31 = 25 := by kernel_rfl
  have HR := Lib.hid (rot_or x 7 (by decide) (by decide) hx)
  go_enter Try.func64, Try.ntmps64
  go_wp2_with fail
  go_ret
  exact ⟨by rw [← HR.out]; simp, rfl⟩
set_option maxRecDepth 100000 in
theorem turn7 (x : Nat) (w : World) (hx : x < 4294967296) : Calls Try.prog 55 #[.int .u32 (x : Int), .int .i64 7] w fun e w' => e = .returned (.int .u32 (rot x 7 : Nat)) ∧ w' = w := by
  have H := Lib.hid (rotl7 x w hx)
  go_enter Try.func55, Try.ntmps55
  go_wp2_with fail
  refine H.out.mono ?_
  rintro e w1 ⟨rfl, h1⟩
  rw [h1]
  go_wp2_with fail
  go_ret
  exact ⟨rfl, rfl⟩
set_option maxRecDepth 100000 in
set_option maxHeartbeats 800000 in
theorem rotl11 (x : Nat) (w : World) (hx : x < 4294967296) : Calls Try.prog 64 #[.int .u32 (x : Int), .int .i64 (-11)] w fun e w' => e = .returned (.int .u32 (rot x 11 : Nat)) ∧ w' = w := by
  have hx0 : (0 : Int) ≤ (x : Int) := by omega
  have r0 : bits BinOp.and IntKind.u64 (IntKind.u64.wrap (-11)) 31 = 21 := by kernel_rfl
  have HR := Lib.hid (rot_or x 11 (by decide) (by decide) hx)
  go_enter Try.func64, Try.ntmps64
  go_wp2_with fail
  go_ret
  exact ⟨by rw [← HR.out]; simp, rfl⟩
set_option maxRecDepth 100000 in
theorem turn11 (x : Nat) (w : World) (hx : x < 4294967296) : Calls Try.prog 55 #[.int .u32 (x : Int), .int .i64 11] w fun e w' => e = .returned (.int .u32 (rot x 11 : Nat)) ∧ w' = w := by
  have H := Lib.hid (rotl11 x w hx)
  go_enter Try.func55, Try.ntmps55
  go_wp2_with fail
  refine H.out.mono ?_
  rintro e w1 ⟨rfl, h1⟩
  rw [h1]
  go_wp2_with fail
  go_ret
  exact ⟨rfl, rfl⟩
set_option maxRecDepth 100000 in
set_option maxHeartbeats 800000 in
theorem rotl13 (x : Nat) (w : World) (hx : x < 4294967296) : Calls Try.prog 64 #[.int .u32 (x : Int), .int .i64 (-13)] w fun e w' => e = .returned (.int .u32 (rot x 13 : Nat)) ∧ w' = w := by
  have hx0 : (0 : Int) ≤ (x : Int) := by omega
  have r0 : bits BinOp.and IntKind.u64 (IntKind.u64.wrap (-13)) 31 = 19 := by kernel_rfl
  have HR := Lib.hid (rot_or x 13 (by decide) (by decide) hx)
  go_enter Try.func64, Try.ntmps64
  go_wp2_with fail
  go_ret
  exact ⟨by rw [← HR.out]; simp, rfl⟩
set_option maxRecDepth 100000 in
theorem turn13 (x : Nat) (w : World) (hx : x < 4294967296) : Calls Try.prog 55 #[.int .u32 (x : Int), .int .i64 13] w fun e w' => e = .returned (.int .u32 (rot x 13 : Nat)) ∧ w' = w := by
  have H := Lib.hid (rotl13 x w hx)
  go_enter Try.func55, Try.ntmps55
  go_wp2_with fail
  refine H.out.mono ?_
  rintro e w1 ⟨rfl, h1⟩
  rw [h1]
  go_wp2_with fail
  go_ret
  exact ⟨rfl, rfl⟩
set_option maxRecDepth 100000 in
set_option maxHeartbeats 800000 in
theorem rotl17 (x : Nat) (w : World) (hx : x < 4294967296) : Calls Try.prog 64 #[.int .u32 (x : Int), .int .i64 (-17)] w fun e w' => e = .returned (.int .u32 (rot x 17 : Nat)) ∧ w' = w := by
  have hx0 : (0 : Int) ≤ (x : Int) := by omega
  have r0 : bits BinOp.and IntKind.u64 (IntKind.u64.wrap (-17)) 31 = 15 := by kernel_rfl
  have HR := Lib.hid (rot_or x 17 (by decide) (by decide) hx)
  go_enter Try.func64, Try.ntmps64
  go_wp2_with fail
  go_ret
  exact ⟨by rw [← HR.out]; simp, rfl⟩
set_option maxRecDepth 100000 in
theorem turn17 (x : Nat) (w : World) (hx : x < 4294967296) : Calls Try.prog 55 #[.int .u32 (x : Int), .int .i64 17] w fun e w' => e = .returned (.int .u32 (rot x 17 : Nat)) ∧ w' = w := by
  have H := Lib.hid (rotl17 x w hx)
  go_enter Try.func55, Try.ntmps55
  go_wp2_with fail
  refine H.out.mono ?_
  rintro e w1 ⟨rfl, h1⟩
  rw [h1]
  go_wp2_with fail
  go_ret
  exact ⟨rfl, rfl⟩
set_option maxRecDepth 100000 in
set_option maxHeartbeats 800000 in
theorem rotl18 (x : Nat) (w : World) (hx : x < 4294967296) : Calls Try.prog 64 #[.int .u32 (x : Int), .int .i64 (-18)] w fun e w' => e = .returned (.int .u32 (rot x 18 : Nat)) ∧ w' = w := by
  have hx0 : (0 : Int) ≤ (x : Int) := by omega
  have r0 : bits BinOp.and IntKind.u64 (IntKind.u64.wrap (-18)) 31 = 14 := by kernel_rfl
  have HR := Lib.hid (rot_or x 18 (by decide) (by decide) hx)
  go_enter Try.func64, Try.ntmps64
  go_wp2_with fail
  go_ret
  exact ⟨by rw [← HR.out]; simp, rfl⟩
set_option maxRecDepth 100000 in
theorem turn18 (x : Nat) (w : World) (hx : x < 4294967296) : Calls Try.prog 55 #[.int .u32 (x : Int), .int .i64 18] w fun e w' => e = .returned (.int .u32 (rot x 18 : Nat)) ∧ w' = w := by
  have H := Lib.hid (rotl18 x w hx)
  go_enter Try.func55, Try.ntmps55
  go_wp2_with fail
  refine H.out.mono ?_
  rintro e w1 ⟨rfl, h1⟩
  rw [h1]
  go_wp2_with fail
  go_ret
  exact ⟨rfl, rfl⟩
set_option maxRecDepth 100000 in
set_option maxHeartbeats 800000 in
theorem rotl19 (x : Nat) (w : World) (hx : x < 4294967296) : Calls Try.prog 64 #[.int .u32 (x : Int), .int .i64 (-19)] w fun e w' => e = .returned (.int .u32 (rot x 19 : Nat)) ∧ w' = w := by
  have hx0 : (0 : Int) ≤ (x : Int) := by omega
  have r0 : bits BinOp.and IntKind.u64 (IntKind.u64.wrap (-19)) 31 = 13 := by kernel_rfl
  have HR := Lib.hid (rot_or x 19 (by decide) (by decide) hx)
  go_enter Try.func64, Try.ntmps64
  go_wp2_with fail
  go_ret
  exact ⟨by rw [← HR.out]; simp, rfl⟩
set_option maxRecDepth 100000 in
theorem turn19 (x : Nat) (w : World) (hx : x < 4294967296) : Calls Try.prog 55 #[.int .u32 (x : Int), .int .i64 19] w fun e w' => e = .returned (.int .u32 (rot x 19 : Nat)) ∧ w' = w := by
  have H := Lib.hid (rotl19 x w hx)
  go_enter Try.func55, Try.ntmps55
  go_wp2_with fail
  refine H.out.mono ?_
  rintro e w1 ⟨rfl, h1⟩
  rw [h1]
  go_wp2_with fail
  go_ret
  exact ⟨rfl, rfl⟩
set_option maxRecDepth 100000 in
set_option maxHeartbeats 800000 in
theorem rotl22 (x : Nat) (w : World) (hx : x < 4294967296) : Calls Try.prog 64 #[.int .u32 (x : Int), .int .i64 (-22)] w fun e w' => e = .returned (.int .u32 (rot x 22 : Nat)) ∧ w' = w := by
  have hx0 : (0 : Int) ≤ (x : Int) := by omega
  have r0 : bits BinOp.and IntKind.u64 (IntKind.u64.wrap (-22)) 31 = 10 := by kernel_rfl
  have HR := Lib.hid (rot_or x 22 (by decide) (by decide) hx)
  go_enter Try.func64, Try.ntmps64
  go_wp2_with fail
  go_ret
  exact ⟨by rw [← HR.out]; simp, rfl⟩
set_option maxRecDepth 100000 in
theorem turn22 (x : Nat) (w : World) (hx : x < 4294967296) : Calls Try.prog 55 #[.int .u32 (x : Int), .int .i64 22] w fun e w' => e = .returned (.int .u32 (rot x 22 : Nat)) ∧ w' = w := by
  have H := Lib.hid (rotl22 x w hx)
  go_enter Try.func55, Try.ntmps55
  go_wp2_with fail
  refine H.out.mono ?_
  rintro e w1 ⟨rfl, h1⟩
  rw [h1]
  go_wp2_with fail
  go_ret
  exact ⟨rfl, rfl⟩
set_option maxRecDepth 100000 in
set_option maxHeartbeats 800000 in
theorem rotl25 (x : Nat) (w : World) (hx : x < 4294967296) : Calls Try.prog 64 #[.int .u32 (x : Int), .int .i64 (-25)] w fun e w' => e = .returned (.int .u32 (rot x 25 : Nat)) ∧ w' = w := by
  have hx0 : (0 : Int) ≤ (x : Int) := by omega
  have r0 : bits BinOp.and IntKind.u64 (IntKind.u64.wrap (-25)) 31 = 7 := by kernel_rfl
  have HR := Lib.hid (rot_or x 25 (by decide) (by decide) hx)
  go_enter Try.func64, Try.ntmps64
  go_wp2_with fail
  go_ret
  exact ⟨by rw [← HR.out]; simp, rfl⟩
set_option maxRecDepth 100000 in
theorem turn25 (x : Nat) (w : World) (hx : x < 4294967296) : Calls Try.prog 55 #[.int .u32 (x : Int), .int .i64 25] w fun e w' => e = .returned (.int .u32 (rot x 25 : Nat)) ∧ w' = w := by
  have H := Lib.hid (rotl25 x w hx)
  go_enter Try.func55, Try.ntmps55
  go_wp2_with fail
  refine H.out.mono ?_
  rintro e w1 ⟨rfl, h1⟩
  rw [h1]
  go_wp2_with fail
  go_ret
  exact ⟨rfl, rfl⟩
end Go.Proofs.Ytagfplcafeblbaa.H
