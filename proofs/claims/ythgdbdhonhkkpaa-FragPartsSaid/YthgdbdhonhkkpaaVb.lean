/-
  vint: Put tells a number's bytes.
-/
import Derived.Test.YthgdbdhonhkkpaaVa
namespace Go.Proofs.Ythgdbdhonhkkpaa.V
open Go.RowKit Go.Proofs.Ythgdbdhonhkkpaa.L Go.Proofs.YthgdbdhonhkkpaaW.PrintWords
attribute [local go_sem ↓] Go.wp_at_zero Go.wp_at_succ

theorem siz1 {v : Int} (h : v < 64) : siz v = 1 := by unfold siz; rw [if_pos h]
theorem siz2 {v : Int} (h0 : 64 ≤ v) (h : v < 16384) : siz v = 2 := by unfold siz; rw [if_neg (by omega), if_pos h]
theorem siz4 {v : Int} (h0 : 16384 ≤ v) (h : v < 1073741824) : siz v = 4 := by unfold siz; rw [if_neg (by omega), if_neg (by omega), if_pos h]
theorem siz8 {v : Int} (h0 : 1073741824 ≤ v) (h : v < 4611686018427387904) : siz v = 8 := by unfold siz; rw [if_neg (by omega), if_neg (by omega), if_neg (by omega), if_pos h]
theorem siz0 {v : Int} (h0 : 4611686018427387904 ≤ v) : siz v = 0 := by unfold siz; rw [if_neg (by omega), if_neg (by omega), if_neg (by omega), if_neg (by omega)]

/-- a number's bytes -/
def putL (v : Int) : List Int :=
  if v < 64 then [v] else
  if v < 16384 then [64 + v / 256, v % 256] else
  if v < 1073741824 then [128 + v / 16777216, v / 65536 % 256, v / 256 % 256, v % 256] else
  if v < 4611686018427387904 then [192 + v / 72057594037927936, v / 281474976710656 % 256, v / 1099511627776 % 256, v / 4294967296 % 256, v / 16777216 % 256, v / 65536 % 256, v / 256 % 256, v % 256] else []

theorem put_eq1 (v : Int) (h0 : 0 ≤ v) (h : v < 64) : (#[.int .u8 (v)] : Array Value).setIfInBounds 0 (.int .u8 (bits BinOp.or IntKind.u8 (v) (IntKind.u8.wrap (IntKind.u8.wrap 0 * 64)))) = ((putL v).map (Value.int .u8)).toArray := by
  rw [show putL v = [v] from by unfold putL;  rw [if_pos (by omega)]]
  rw [show bits BinOp.or IntKind.u8 (v) (IntKind.u8.wrap (IntKind.u8.wrap 0 * 64)) = v from by rw [show IntKind.u8.wrap (IntKind.u8.wrap 0 * 64) = 0 from by decide, or8 6 (by decide) (by decide) (by decide) (by omega) (by omega) (by omega)]; try omega]
  simp; try omega
set_option maxHeartbeats 800000 in
set_option maxRecDepth 100000 in
theorem put1 (v : Int) (w : World) (h0 : 0 ≤ v) (h : v < 64) : Calls Try.prog 59 #[.int .u64 v] w fun e w' => ∃ b, e = .returned (.tuple #[.slice (some ⟨b, 0, none⟩) 1 1, .int .i64 0]) ∧ w.heap.size ≤ b ∧ w'.heap[b]? = some (.cells ((putL v).map (Value.int .u8)).toArray 5 (0, 0)) ∧ Below w.heap.size w w' := by
  have hsz := size_any v
  have hcl := class_any v
  rw [siz1 (by omega)] at hsz
  rw [cls0 (by omega)] at hcl
  have HP := Lib.hid (put_eq1 v h0 h)
  have HS := Lib.hid hsz
  have HC := Lib.hid hcl
  clear hsz hcl
  have hmk : ∀ w : World, (Instr.makeSlice 23 (.int .i64 1) (.int .i64 1)).run Try.prog w = .ok (.slice (some ⟨w.heap.size, 0, none⟩) 1 1) (w.alloc (.cells #[.int .u8 0] 5)) := fun _ => by kernel_rfl
  go_enter Try.func59, Try.ntmps59
  go_wp2_with (go_at_call 103; refine (HS.out _).mono ?_; rintro e w1 ⟨rfl, hb⟩)
  refine wp_loop_rounds 2 ?_
  rw [rounds_succ]
  go_wp2
  rw [rounds_succ]
  go_wp2
  have hB : Below w.heap.size w (w1.alloc (Obj.cells #[.int .u8 (v)] 5)) := hb.alloc hb.size _
  have hg : (w1.alloc (Obj.cells #[.int .u8 (v)] 5)).heap[w1.heap.size]? = some (Obj.cells #[.int .u8 (v)] 5) := heap_alloc_new _ _
  have hge := hb.size
  generalize hW : w1.alloc (Obj.cells #[.int .u8 (v)] 5) = W at hB hg ⊢
  clear hW
  generalize w1.heap.size = g at hg hge ⊢
  clear hb
  have hlt : g < W.heap.size := blk_lt hg
  have hc1 := (blk_cell hg 0).trans (show _ = some _ from rfl)
  have hf1 := blk_frozen hg 0
  have hc0 : ∀ w', Below W.heap.size W w' → w'.cell? ⟨g, 0, none⟩ = _ := fun w' hb => (hb.cell (p := ⟨g, 0, none⟩) hlt).trans hc1
  have hf0 : ∀ w', Below W.heap.size W w' → w'.frozen? ⟨g, 0, none⟩ = false := fun w' hb => (hb.frozen (p := ⟨g, 0, none⟩) hlt).trans hf1
  go_region_with (go_at_call 104; refine (HC.out _).mono ?_; rintro e w2 ⟨rfl, hb2⟩; (have hb3 := stay1 (stay0 W) hb2))
  all_goals go_wp2
  all_goals go_ret2
  all_goals
    refine ⟨g, rfl, hge, ?_, (hB.trans (hb3.mono hB.size)).setCell hge _⟩
    rw [blk_set (blk_below hg hb3), HP.out]

theorem put_eq2 (v : Int) (h0 : 64 ≤ v) (h : v < 16384) : (#[.int .u8 (v / 256), .int .u8 (v % 256)] : Array Value).setIfInBounds 0 (.int .u8 (bits BinOp.or IntKind.u8 (v / 256) (IntKind.u8.wrap (IntKind.u8.wrap 1 * 64)))) = ((putL v).map (Value.int .u8)).toArray := by
  rw [show putL v = [64 + v / 256, v % 256] from by unfold putL; rw [if_neg (by omega)]; rw [if_pos (by omega)]]
  rw [show bits BinOp.or IntKind.u8 (v / 256) (IntKind.u8.wrap (IntKind.u8.wrap 1 * 64)) = 64 + v / 256 from by rw [show IntKind.u8.wrap (IntKind.u8.wrap 1 * 64) = 64 from by decide, or8 6 (by decide) (by decide) (by decide) (by omega) (by omega) (by omega)]; try omega]
  simp; try omega
set_option maxHeartbeats 800000 in
set_option maxRecDepth 100000 in
theorem put2 (v : Int) (w : World) (h0 : 64 ≤ v) (h : v < 16384) : Calls Try.prog 59 #[.int .u64 v] w fun e w' => ∃ b, e = .returned (.tuple #[.slice (some ⟨b, 0, none⟩) 2 2, .int .i64 0]) ∧ w.heap.size ≤ b ∧ w'.heap[b]? = some (.cells ((putL v).map (Value.int .u8)).toArray 5 (0, 0)) ∧ Below w.heap.size w w' := by
  have hsz := size_any v
  have hcl := class_any v
  rw [siz2 h0 h] at hsz
  rw [cls1 h0 h] at hcl
  have HP := Lib.hid (put_eq2 v h0 h)
  have HS := Lib.hid hsz
  have HC := Lib.hid hcl
  clear hsz hcl
  have hmk : ∀ w : World, (Instr.makeSlice 23 (.int .i64 2) (.int .i64 2)).run Try.prog w = .ok (.slice (some ⟨w.heap.size, 0, none⟩) 2 2) (w.alloc (.cells #[.int .u8 0, .int .u8 0] 5)) := fun _ => by kernel_rfl
  go_enter Try.func59, Try.ntmps59
  go_wp2_with (go_at_call 103; refine (HS.out _).mono ?_; rintro e w1 ⟨rfl, hb⟩)
  refine wp_loop_rounds 3 ?_
  rw [rounds_succ]
  go_wp2
  rw [rounds_succ]
  go_wp2
  rw [rounds_succ]
  go_wp2
  have hB : Below w.heap.size w (w1.alloc (Obj.cells #[.int .u8 (v / 256), .int .u8 (v % 256)] 5)) := hb.alloc hb.size _
  have hg : (w1.alloc (Obj.cells #[.int .u8 (v / 256), .int .u8 (v % 256)] 5)).heap[w1.heap.size]? = some (Obj.cells #[.int .u8 (v / 256), .int .u8 (v % 256)] 5) := heap_alloc_new _ _
  have hge := hb.size
  generalize hW : w1.alloc (Obj.cells #[.int .u8 (v / 256), .int .u8 (v % 256)] 5) = W at hB hg ⊢
  clear hW
  generalize w1.heap.size = g at hg hge ⊢
  clear hb
  have hlt : g < W.heap.size := blk_lt hg
  have hc1 := (blk_cell hg 0).trans (show _ = some _ from rfl)
  have hf1 := blk_frozen hg 0
  have hc0 : ∀ w', Below W.heap.size W w' → w'.cell? ⟨g, 0, none⟩ = _ := fun w' hb => (hb.cell (p := ⟨g, 0, none⟩) hlt).trans hc1
  have hf0 : ∀ w', Below W.heap.size W w' → w'.frozen? ⟨g, 0, none⟩ = false := fun w' hb => (hb.frozen (p := ⟨g, 0, none⟩) hlt).trans hf1
  go_region_with (go_at_call 104; refine (HC.out _).mono ?_; rintro e w2 ⟨rfl, hb2⟩; (have hb3 := stay1 (stay0 W) hb2))
  all_goals go_wp2
  all_goals go_ret2
  all_goals
    refine ⟨g, rfl, hge, ?_, (hB.trans (hb3.mono hB.size)).setCell hge _⟩
    rw [blk_set (blk_below hg hb3), HP.out]

theorem put_eq4 (v : Int) (h0 : 16384 ≤ v) (h : v < 1073741824) : (#[.int .u8 (v / 256 / 256 / 256), .int .u8 (v / 256 / 256 % 256), .int .u8 (v / 256 % 256), .int .u8 (v % 256)] : Array Value).setIfInBounds 0 (.int .u8 (bits BinOp.or IntKind.u8 (v / 256 / 256 / 256) (IntKind.u8.wrap (IntKind.u8.wrap 2 * 64)))) = ((putL v).map (Value.int .u8)).toArray := by
  rw [show putL v = [128 + v / 16777216, v / 65536 % 256, v / 256 % 256, v % 256] from by unfold putL; rw [if_neg (by omega)]; rw [if_neg (by omega)]; rw [if_pos (by omega)]]
  rw [show bits BinOp.or IntKind.u8 (v / 256 / 256 / 256) (IntKind.u8.wrap (IntKind.u8.wrap 2 * 64)) = 128 + v / 16777216 from by rw [show IntKind.u8.wrap (IntKind.u8.wrap 2 * 64) = 128 from by decide, or8 6 (by decide) (by decide) (by decide) (by omega) (by omega) (by omega)]; try omega]
  simp; try omega
set_option maxHeartbeats 800000 in
set_option maxRecDepth 100000 in
theorem put4 (v : Int) (w : World) (h0 : 16384 ≤ v) (h : v < 1073741824) : Calls Try.prog 59 #[.int .u64 v] w fun e w' => ∃ b, e = .returned (.tuple #[.slice (some ⟨b, 0, none⟩) 4 4, .int .i64 0]) ∧ w.heap.size ≤ b ∧ w'.heap[b]? = some (.cells ((putL v).map (Value.int .u8)).toArray 5 (0, 0)) ∧ Below w.heap.size w w' := by
  have hsz := size_any v
  have hcl := class_any v
  rw [siz4 h0 h] at hsz
  rw [cls2 h0 h] at hcl
  have HP := Lib.hid (put_eq4 v h0 h)
  have HS := Lib.hid hsz
  have HC := Lib.hid hcl
  clear hsz hcl
  have hmk : ∀ w : World, (Instr.makeSlice 23 (.int .i64 4) (.int .i64 4)).run Try.prog w = .ok (.slice (some ⟨w.heap.size, 0, none⟩) 4 4) (w.alloc (.cells #[.int .u8 0, .int .u8 0, .int .u8 0, .int .u8 0] 5)) := fun _ => by kernel_rfl
  go_enter Try.func59, Try.ntmps59
  go_wp2_with (go_at_call 103; refine (HS.out _).mono ?_; rintro e w1 ⟨rfl, hb⟩)
  refine wp_loop_rounds 5 ?_
  rw [rounds_succ]
  go_wp2
  rw [rounds_succ]
  go_wp2
  rw [rounds_succ]
  go_wp2
  rw [rounds_succ]
  go_wp2
  rw [rounds_succ]
  go_wp2
  have hB : Below w.heap.size w (w1.alloc (Obj.cells #[.int .u8 (v / 256 / 256 / 256), .int .u8 (v / 256 / 256 % 256), .int .u8 (v / 256 % 256), .int .u8 (v % 256)] 5)) := hb.alloc hb.size _
  have hg : (w1.alloc (Obj.cells #[.int .u8 (v / 256 / 256 / 256), .int .u8 (v / 256 / 256 % 256), .int .u8 (v / 256 % 256), .int .u8 (v % 256)] 5)).heap[w1.heap.size]? = some (Obj.cells #[.int .u8 (v / 256 / 256 / 256), .int .u8 (v / 256 / 256 % 256), .int .u8 (v / 256 % 256), .int .u8 (v % 256)] 5) := heap_alloc_new _ _
  have hge := hb.size
  generalize hW : w1.alloc (Obj.cells #[.int .u8 (v / 256 / 256 / 256), .int .u8 (v / 256 / 256 % 256), .int .u8 (v / 256 % 256), .int .u8 (v % 256)] 5) = W at hB hg ⊢
  clear hW
  generalize w1.heap.size = g at hg hge ⊢
  clear hb
  have hlt : g < W.heap.size := blk_lt hg
  have hc1 := (blk_cell hg 0).trans (show _ = some _ from rfl)
  have hf1 := blk_frozen hg 0
  have hc0 : ∀ w', Below W.heap.size W w' → w'.cell? ⟨g, 0, none⟩ = _ := fun w' hb => (hb.cell (p := ⟨g, 0, none⟩) hlt).trans hc1
  have hf0 : ∀ w', Below W.heap.size W w' → w'.frozen? ⟨g, 0, none⟩ = false := fun w' hb => (hb.frozen (p := ⟨g, 0, none⟩) hlt).trans hf1
  go_region_with (go_at_call 104; refine (HC.out _).mono ?_; rintro e w2 ⟨rfl, hb2⟩; (have hb3 := stay1 (stay0 W) hb2))
  all_goals go_wp2
  all_goals go_ret2
  all_goals
    refine ⟨g, rfl, hge, ?_, (hB.trans (hb3.mono hB.size)).setCell hge _⟩
    rw [blk_set (blk_below hg hb3), HP.out]

theorem put_eq8 (v : Int) (h0 : 1073741824 ≤ v) (h : v < 4611686018427387904) : (#[.int .u8 (v / 256 / 256 / 256 / 256 / 256 / 256 / 256), .int .u8 (v / 256 / 256 / 256 / 256 / 256 / 256 % 256), .int .u8 (v / 256 / 256 / 256 / 256 / 256 % 256), .int .u8 (v / 256 / 256 / 256 / 256 % 256), .int .u8 (v / 256 / 256 / 256 % 256), .int .u8 (v / 256 / 256 % 256), .int .u8 (v / 256 % 256), .int .u8 (v % 256)] : Array Value).setIfInBounds 0 (.int .u8 (bits BinOp.or IntKind.u8 (v / 256 / 256 / 256 / 256 / 256 / 256 / 256) (IntKind.u8.wrap (IntKind.u8.wrap 3 * 64)))) = ((putL v).map (Value.int .u8)).toArray := by
  rw [show putL v = [192 + v / 72057594037927936, v / 281474976710656 % 256, v / 1099511627776 % 256, v / 4294967296 % 256, v / 16777216 % 256, v / 65536 % 256, v / 256 % 256, v % 256] from by unfold putL; rw [if_neg (by omega)]; rw [if_neg (by omega)]; rw [if_neg (by omega)]; rw [if_pos (by omega)]]
  rw [show bits BinOp.or IntKind.u8 (v / 256 / 256 / 256 / 256 / 256 / 256 / 256) (IntKind.u8.wrap (IntKind.u8.wrap 3 * 64)) = 192 + v / 72057594037927936 from by rw [show IntKind.u8.wrap (IntKind.u8.wrap 3 * 64) = 192 from by decide, or8 6 (by decide) (by decide) (by decide) (by omega) (by omega) (by omega)]; try omega]
  simp; try omega
set_option maxHeartbeats 800000 in
set_option maxRecDepth 100000 in
theorem put8 (v : Int) (w : World) (h0 : 1073741824 ≤ v) (h : v < 4611686018427387904) : Calls Try.prog 59 #[.int .u64 v] w fun e w' => ∃ b, e = .returned (.tuple #[.slice (some ⟨b, 0, none⟩) 8 8, .int .i64 0]) ∧ w.heap.size ≤ b ∧ w'.heap[b]? = some (.cells ((putL v).map (Value.int .u8)).toArray 5 (0, 0)) ∧ Below w.heap.size w w' := by
  have hsz := size_any v
  have hcl := class_any v
  rw [siz8 h0 h] at hsz
  rw [cls3 h0 h] at hcl
  have HP := Lib.hid (put_eq8 v h0 h)
  have HS := Lib.hid hsz
  have HC := Lib.hid hcl
  clear hsz hcl
  have hmk : ∀ w : World, (Instr.makeSlice 23 (.int .i64 8) (.int .i64 8)).run Try.prog w = .ok (.slice (some ⟨w.heap.size, 0, none⟩) 8 8) (w.alloc (.cells #[.int .u8 0, .int .u8 0, .int .u8 0, .int .u8 0, .int .u8 0, .int .u8 0, .int .u8 0, .int .u8 0] 5)) := fun _ => by kernel_rfl
  go_enter Try.func59, Try.ntmps59
  go_wp2_with (go_at_call 103; refine (HS.out _).mono ?_; rintro e w1 ⟨rfl, hb⟩)
  refine wp_loop_rounds 9 ?_
  rw [rounds_succ]
  go_wp2
  rw [rounds_succ]
  go_wp2
  rw [rounds_succ]
  go_wp2
  rw [rounds_succ]
  go_wp2
  rw [rounds_succ]
  go_wp2
  rw [rounds_succ]
  go_wp2
  rw [rounds_succ]
  go_wp2
  rw [rounds_succ]
  go_wp2
  rw [rounds_succ]
  go_wp2
  have hB : Below w.heap.size w (w1.alloc (Obj.cells #[.int .u8 (v / 256 / 256 / 256 / 256 / 256 / 256 / 256), .int .u8 (v / 256 / 256 / 256 / 256 / 256 / 256 % 256), .int .u8 (v / 256 / 256 / 256 / 256 / 256 % 256), .int .u8 (v / 256 / 256 / 256 / 256 % 256), .int .u8 (v / 256 / 256 / 256 % 256), .int .u8 (v / 256 / 256 % 256), .int .u8 (v / 256 % 256), .int .u8 (v % 256)] 5)) := hb.alloc hb.size _
  have hg : (w1.alloc (Obj.cells #[.int .u8 (v / 256 / 256 / 256 / 256 / 256 / 256 / 256), .int .u8 (v / 256 / 256 / 256 / 256 / 256 / 256 % 256), .int .u8 (v / 256 / 256 / 256 / 256 / 256 % 256), .int .u8 (v / 256 / 256 / 256 / 256 % 256), .int .u8 (v / 256 / 256 / 256 % 256), .int .u8 (v / 256 / 256 % 256), .int .u8 (v / 256 % 256), .int .u8 (v % 256)] 5)).heap[w1.heap.size]? = some (Obj.cells #[.int .u8 (v / 256 / 256 / 256 / 256 / 256 / 256 / 256), .int .u8 (v / 256 / 256 / 256 / 256 / 256 / 256 % 256), .int .u8 (v / 256 / 256 / 256 / 256 / 256 % 256), .int .u8 (v / 256 / 256 / 256 / 256 % 256), .int .u8 (v / 256 / 256 / 256 % 256), .int .u8 (v / 256 / 256 % 256), .int .u8 (v / 256 % 256), .int .u8 (v % 256)] 5) := heap_alloc_new _ _
  have hge := hb.size
  generalize hW : w1.alloc (Obj.cells #[.int .u8 (v / 256 / 256 / 256 / 256 / 256 / 256 / 256), .int .u8 (v / 256 / 256 / 256 / 256 / 256 / 256 % 256), .int .u8 (v / 256 / 256 / 256 / 256 / 256 % 256), .int .u8 (v / 256 / 256 / 256 / 256 % 256), .int .u8 (v / 256 / 256 / 256 % 256), .int .u8 (v / 256 / 256 % 256), .int .u8 (v / 256 % 256), .int .u8 (v % 256)] 5) = W at hB hg ⊢
  clear hW
  generalize w1.heap.size = g at hg hge ⊢
  clear hb
  have hlt : g < W.heap.size := blk_lt hg
  have hc1 := (blk_cell hg 0).trans (show _ = some _ from rfl)
  have hf1 := blk_frozen hg 0
  have hc0 : ∀ w', Below W.heap.size W w' → w'.cell? ⟨g, 0, none⟩ = _ := fun w' hb => (hb.cell (p := ⟨g, 0, none⟩) hlt).trans hc1
  have hf0 : ∀ w', Below W.heap.size W w' → w'.frozen? ⟨g, 0, none⟩ = false := fun w' hb => (hb.frozen (p := ⟨g, 0, none⟩) hlt).trans hf1
  go_region_with (go_at_call 104; refine (HC.out _).mono ?_; rintro e w2 ⟨rfl, hb2⟩; (have hb3 := stay1 (stay0 W) hb2))
  all_goals go_wp2
  all_goals go_ret2
  all_goals
    refine ⟨g, rfl, hge, ?_, (hB.trans (hb3.mono hB.size)).setCell hge _⟩
    rw [blk_set (blk_below hg hb3), HP.out]

theorem putL_len (v : Int) : (putL v).length ≤ 8 := by unfold putL; (repeat' split) <;> simp
theorem put_ok (v : Int) (w : World) (h0 : 0 ≤ v) (h : v < 4611686018427387904) : Calls Try.prog 59 #[.int .u64 v] w fun e w' => ∃ v0 : Value, e = .returned (.tuple #[v0, .int .i64 0]) ∧ (Kd.int .u8).R 5 w' w.heap.size (fun _ => True) v0 (putL v) ∧ Below w.heap.size w w' := by
  by_cases h1 : v < 64
  · refine (put1 v w h0 h1).mono ?_
    rintro e w' ⟨b, rfl, hb, hc, hB⟩
    exact ⟨_, rfl, by have := R_of_blk hc hb (Nat.le_trans (putL_len v) (by decide)); rwa [show (putL v).length = 1 from by unfold putL; rw [if_pos h1]; rfl] at this, hB⟩
  by_cases h2 : v < 16384
  · refine (put2 v w (by omega) h2).mono ?_
    rintro e w' ⟨b, rfl, hb, hc, hB⟩
    exact ⟨_, rfl, by have := R_of_blk hc hb (Nat.le_trans (putL_len v) (by decide)); rwa [show (putL v).length = 2 from by unfold putL; rw [if_neg h1, if_pos h2]; rfl] at this, hB⟩
  by_cases h3 : v < 1073741824
  · refine (put4 v w (by omega) h3).mono ?_
    rintro e w' ⟨b, rfl, hb, hc, hB⟩
    exact ⟨_, rfl, by have := R_of_blk hc hb (Nat.le_trans (putL_len v) (by decide)); rwa [show (putL v).length = 4 from by unfold putL; rw [if_neg h1, if_neg h2, if_pos h3]; rfl] at this, hB⟩
  · refine (put8 v w (by omega) h).mono ?_
    rintro e w' ⟨b, rfl, hb, hc, hB⟩
    exact ⟨_, rfl, by have := R_of_blk hc hb (Nat.le_trans (putL_len v) (by decide)); rwa [show (putL v).length = 8 from by unfold putL; rw [if_neg h1, if_neg h2, if_neg h3, if_pos h]; rfl] at this, hB⟩
set_option maxRecDepth 100000 in
theorem put_no (v : Int) (w : World) (h : 4611686018427387904 ≤ v) : Calls Try.prog 59 #[.int .u64 v] w fun e w' => e = .returned (.tuple #[.slice none 0 0, .int .i64 11]) ∧ Below w.heap.size w w' := by
  have hsz := size_any v
  rw [siz0 h] at hsz
  have HS := Lib.hid hsz
  clear hsz
  go_enter Try.func59, Try.ntmps59
  go_wp2_with (go_at_call 103; refine (HS.out _).mono ?_; rintro e w1 ⟨rfl, hb⟩)
  go_ret2
  exact ⟨rfl, hb⟩
/-- Put, whatever the number. -/
def putE (v : Int) : Int := if v < 4611686018427387904 then 0 else 11
theorem put_any (v : Int) (w : World) (h0 : 0 ≤ v) : Calls Try.prog 59 #[.int .u64 v] w fun e w' => ∃ v0 : Value, e = .returned (.tuple #[v0, .int .i64 (putE v)]) ∧ (Kd.int .u8).R 5 w' w.heap.size (fun _ => True) v0 (putL v) ∧ Below w.heap.size w w' := by
  by_cases h : v < 4611686018427387904
  · rw [show putE v = 0 from if_pos h]; exact put_ok v w h0 h
  · rw [show putE v = 11 from if_neg h]
    refine (put_no v w (by omega)).mono ?_
    rintro e w' ⟨rfl, hB⟩
    refine ⟨_, rfl, ?_, hB⟩
    rw [show putL v = [] from by unfold putL; rw [if_neg (by omega), if_neg (by omega), if_neg (by omega), if_neg (by omega)]]
    exact Kd.R_nil _ _ _ _ _

end Go.Proofs.Ythgdbdhonhkkpaa.V
