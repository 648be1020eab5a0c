/-
  vint: what must come of fixed calls (alive) comes.
-/
import Derived.Test.YtigbmbmngkmdlaaFm
namespace Go.Proofs.Ytigbmbmngkmdlaa.V
open Go.RowKit Go.Proofs.Ytigbmbmngkmdlaa.L Go.Proofs.YtigbmbmngkmdlaaW.PrintWords

theorem C_lit {w : World} {k : IntKind} {e : TypeId} {l : List Int} {b : Nat} (h : w.heap[b]? = some (.cells (l.map (Value.int k)).toArray e (0, 0))) (hl : l.length ≤ maxLen) : (Kd.int k).C w (some ⟨b, 0, none⟩) l.length l := by
  obtain ⟨A, c, he, _, hC⟩ := Kd.R_reads (R_of_blk h (Nat.zero_le _) hl)
  injection he with he
  subst he
  exact hC

set_option maxHeartbeats 1600000 in
set_option maxRecDepth 100000 in
theorem alive01 (w : World) : Calls Try.prog 35 #[] w fun e w' => e = .returned (.bool true) ∧ Below w.heap.size w w' := by
  go_enter Try.func35, Try.ntmps35
  go_wp2_with fail
  refine (put_ok 300 _ (by decide) (by decide)).mono ?_
  rintro e w1 ⟨v1, rfl, ho1, hb1⟩
  rw [show putL 300 = [65, 44] from by decide] at ho1
  obtain ⟨A1, c1, rfl, _, hC1⟩ := Kd.R_reads ho1
  have HB1 := Lib.hid hb1
  have HC1 := Lib.hid hC1
  clear ho1 hb1 hC1
  go_wp2_with fail
  refine (get_any [65, 44] _ 2 0 _ (C_lit (heap_alloc_new _ _) (by decide)) (by decide) (by simp [okB])).mono ?_
  rintro e w2 ⟨rfl, hb2⟩
  rw [show getV (getR [65, 44] 0) = .returned (.tuple #[.int .u64 300, .int .i64 2, .int .i64 0]) from rfl]
  have HB2 := Lib.hid (stay1 (HB1.out.alloc HB1.out.size _) hb2)
  have HB2' := Lib.hid (stay1 ((Below.refl w1.heap.size w1).alloc (Nat.le_refl _) _) hb2)
  clear hb2
  go_wp2_with fail
  refine (get_any [64, 1] _ 2 0 _ (C_lit (heap_alloc_new _ _) (by decide)) (by decide) (by simp [okB])).mono ?_
  rintro e w3 ⟨rfl, hb3⟩
  rw [show getV (getR [64, 1] 0) = .returned (.tuple #[.int .u64 0, .int .i64 0, .int .i64 3]) from rfl]
  have HB3 := Lib.hid (stay1 (HB2.out.alloc HB2.out.size _) hb3)
  have HB3' := Lib.hid (stay1 (HB2'.out.alloc HB2'.out.size _) hb3)
  clear hb3
  go_wp2_with fail
  refine (fields_any [7, 1, 9] _ 3 _ (C_lit (heap_alloc_new _ _) (by decide)) (by decide) (by simp [okB]) (by decide)).mono ?_
  rintro e w4 ⟨v4, rfl, ho4, hb4⟩
  rw [show fldsR [7, 1, 9] = ([(7, [9])], 0) from by decide] at ho4 ⊢
  have HB4 := Lib.hid (stay1 (HB3.out.alloc HB3.out.size _) hb4)
  have HB4' := Lib.hid (stay1 (HB3'.out.alloc HB3'.out.size _) hb4)
  obtain ⟨A4, c4, rfl, _, hC4⟩ := Kd.R_reads ho4
  obtain ⟨_, hn | ⟨b, off, rfl, _, hcell⟩⟩ := F_open hC4
  · cases hn
  have h7 := (hcell 0 (by decide)).1
  have hcv : (convert 25 9 (.slice A1 2 c1)).run Try.prog w4 = .ok (.string ⟨#[65, 44]⟩) w4 := Kd.C_string (P := Try.prog) (src := 25) (dst := 9) (e := 5) (c := c1) Try.underlying25 Try.underlying5 Try.underlying9 (Kd.C_below HC1.out HB4'.out)
  clear hb4 ho4 hC4 hcell
  simp only [List.getD_cons_zero, Nat.zero_mul, Nat.add_zero] at h7
  go_wp2
  go_ret
  exact ⟨rfl, HB4.out⟩
end Go.Proofs.Ytigbmbmngkmdlaa.V
