/-
  bitmap: what must come of fixed calls.
-/
import Derived.Test.YtigbmbmngkmdlaaBe
namespace Go.Proofs.Ytigbmbmngkmdlaa.Bm
open Go.RowKit Go.Proofs.Ytigbmbmngkmdlaa.L Go.Proofs.Ytigbmbmngkmdlaa.Bt Go.Proofs.YtigbmbmngkmdlaaW.PrintWords

theorem new9 (w : World) : Calls Try.prog 44 #[.int .i64 9] w fun e w' => e = .returned (.tuple #[.agg #[.int .i64 9, .int .u64 0], .int .i64 0]) ∧ Below w.heap.size w w' := new_any 9 w
theorem new65 (w : World) : Calls Try.prog 44 #[.int .i64 65] w fun e w' => e = .returned (.tuple #[.agg #[.int .i64 0, .int .u64 0], .int .i64 1]) ∧ Below w.heap.size w w' := new_any 65 w
theorem with9 (w : World) : Calls Try.prog 47 #[.agg #[.int .i64 9, .int .u64 0], .int .i64 8] w fun e w' => e = .returned (.tuple #[.agg #[.int .i64 9, .int .u64 256], .int .i64 0]) ∧ Below w.heap.size w w' := with_any 9 0 8 w (by decide)
theorem write9 (w : World) : Calls Try.prog 17 #[.agg #[.int .i64 9, .int .u64 256]] w fun e w' => ∃ v0 : Value, e = .returned (.tuple #[v0, .int .i64 0]) ∧ (Kd.int .u8).R 5 w' w.heap.size (fun _ => True) v0 [9, 0, 1] ∧ Below w.heap.size w w' := write_ok 9 256 w (by decide)
theorem read9 (A : Option Addr) (c : Nat) (w : World) (hC : (Kd.int .u8).C w A 3 [9, 0, 1]) (hc : 3 ≤ c) : Calls Try.prog 18 #[.slice A 3 c] w fun e w' => e = .returned (.tuple #[.agg #[.int .i64 9, .int .u64 256], .int .i64 0]) ∧ Below w.heap.size w w' := read_any [9, 0, 1] A c w hC hc (by intro x hx; simp at hx; omega)
theorem has98 (w : World) : Calls Try.prog 50 #[.agg #[.int .i64 9, .int .u64 256], .int .i64 8] w fun e w' => e = .returned (.bool true) ∧ Below w.heap.size w w' := has_any 9 256 8 w (by decide)
theorem has97 (w : World) : Calls Try.prog 50 #[.agg #[.int .i64 9, .int .u64 256], .int .i64 7] w fun e w' => e = .returned (.bool false) ∧ Below w.heap.size w w' := has_any 9 256 7 w (by decide)
theorem miss9 (w : World) : Calls Try.prog 48 #[.agg #[.int .i64 9, .int .u64 256]] w fun e w' => ∃ v0 : Value, e = .returned v0 ∧ (Kd.int .i64).R 3 w' w.heap.size (fun _ => True) v0 [0, 1, 2, 3, 4, 5, 6, 7] ∧ Below w.heap.size w w' := missing_any 9 256 w (by decide)

theorem mk (w : World) (n x : Int) : ∃ y, y = w.alloc (.cells #[.int .i64 n, .int .u64 x] 24) ∧ At w.heap.size n x y ∧ Below w.heap.size w y := ⟨_, rfl, At.new w n x, (Below.refl _ _).alloc (Nat.le_refl _) _⟩

set_option maxHeartbeats 1600000 in
set_option maxRecDepth 100000 in
theorem alive_any (w : World) : Calls Try.prog 15 #[] w fun e w' => e = .returned (.bool true) ∧ Below w.heap.size w w' := by
  go_enter Try.func15, Try.ntmps15
  go_wp2_with fail
  refine (new9 _).mono ?_
  rintro e w1 ⟨rfl, hb1⟩
  have HB1 := Lib.hid hb1
  obtain ⟨y1, hy1, ha1, hby1⟩ := mk w1 9 0
  have HY1 := Lib.hid (stay1 hb1 hby1)
  clear hb1 hby1 ha1
  go_wp2_with fail
  rw [← hy1]
  clear hy1
  refine (with9 _).mono ?_
  rintro e w2 ⟨rfl, hb2⟩
  have HB2 := Lib.hid (stay1 HY1.out hb2)
  obtain ⟨y2, hy2, ha2, hby2⟩ := mk w2 9 256
  have HY2 := Lib.hid (stay1 HB2.out hby2)
  have HA2 := Lib.hid ha2
  clear hb2 hby2 ha2
  go_wp2_with fail
  rw [← hy2]
  clear hy2
  refine (write9 _).mono ?_
  rintro e w3 ⟨v3, rfl, ho3, hb3⟩
  obtain ⟨A3, c3, rfl, hc3, hC3⟩ := Kd.R_reads ho3
  have HB3 := Lib.hid (stay1 HY2.out hb3)
  have HA3 := Lib.hid (HA2.out.below hb3)
  have HC3 := Lib.hid hC3
  have HK3 := Lib.hid hc3
  clear hb3 hC3 ho3 hc3
  go_wp2_with fail
  refine (read9 _ _ _ HC3.out HK3.out).mono ?_
  rintro e w4 ⟨rfl, hb4⟩
  have HB4 := Lib.hid (stay1 HB3.out hb4)
  obtain ⟨y4, hy4, ha4, hby4⟩ := mk w4 9 256
  have HY4 := Lib.hid (stay1 HB4.out hby4)
  have HA4 := Lib.hid ha4
  have HA34 := Lib.hid ((HA3.out.below hb4).below hby4)
  have HC4 := Lib.hid (Kd.C_below (Kd.C_below HC3.out hb4) hby4)
  clear hb4 hby4 ha4
  go_wp2_with fail
  rw [← hy4]
  clear hy4
  refine (new65 _).mono ?_
  rintro e w5 ⟨rfl, hb5⟩
  have HB5 := Lib.hid (stay1 HY4.out hb5)
  obtain ⟨y5, hy5, ha5, hby5⟩ := mk w5 0 0
  have HY5 := Lib.hid (stay1 HB5.out hby5)
  have HA5 := Lib.hid ((HA34.out.below hb5).below hby5)
  have HA45 := Lib.hid ((HA4.out.below hb5).below hby5)
  have HC5 := Lib.hid (Kd.C_below (Kd.C_below HC4.out hb5) hby5)
  have hcv : (convert 25 9 (.slice A3 3 c3)).run Try.prog y5 = .ok (.string ⟨#[9, 0, 1]⟩) y5 := Kd.C_string (P := Try.prog) (src := 25) (dst := 9) (e := 5) (c := c3) Try.underlying25 Try.underlying5 Try.underlying9 HC5.out
  have q0 := HA5.out.c0
  have q1 := HA5.out.c1
  have r0 := HA45.out.c0
  have r1 := HA45.out.c1
  rw [hy5] at hcv q0 q1 r0 r1
  clear hb5 hby5 ha5
  go_wp2_with fail
  rw [← hy5]
  rw [← hy5] at hcv q0 q1 r0 r1
  clear hy5 hcv
  refine (has98 _).mono ?_
  rintro e w6 ⟨rfl, hb6⟩
  have HB6 := Lib.hid (stay1 HY5.out hb6)
  have HA6 := Lib.hid (HA5.out.below hb6)
  have s0 := HA6.out.c0
  have s1 := HA6.out.c1
  clear hb6 q0 q1 r0 r1
  go_wp2_with fail
  refine (has97 _).mono ?_
  rintro e w7 ⟨rfl, hb7⟩
  have HB7 := Lib.hid (stay1 HB6.out hb7)
  have HA7 := Lib.hid (HA6.out.below hb7)
  have t0 := HA7.out.c0
  have t1 := HA7.out.c1
  clear hb7 s0 s1
  go_wp2_with fail
  refine (miss9 _).mono ?_
  rintro e w8 ⟨v8, rfl, ho8, hb8⟩
  obtain ⟨A8, c8, rfl, _, _⟩ := Kd.R_reads ho8
  have HB8 := Lib.hid (stay1 HB7.out hb8)
  clear hb8 ho8
  go_wp2
  go_ret
  exact ⟨rfl, HB8.out⟩
end Go.Proofs.Ytigbmbmngkmdlaa.Bm
