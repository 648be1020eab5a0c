/-
  aes: the document's Boxes.
-/
import Derived.Test.YtblnclooobggnaaAl
namespace Go.Proofs.Ytblnclooobggnaa.A
open Go.RowKit Go.Proofs.Ytblnclooobggnaa.L Go.Proofs.Ytblnclooobggnaa.N Go.Proofs.YtblnclooobggnaaW.PrintWords

abbrev tI : TypeId := 3
theorem info_i : (Try.prog.info? tI).map (fun i => (i.zero, i.size, i.bytes)) = some (some (.int .i64 0), 1, 8) := by kernel_rfl
set_option maxRecDepth 100000 in
set_option maxHeartbeats 3200000 in
theorem refboxes_any (w : World) : Calls Try.prog 18 #[] w fun e w' => ∃ v, e = .returned v ∧ (Kd.int .i64).R tI w' w.heap.size (fun _ => True) v (nat boxT) ∧ Below w.heap.size w w' := by
  go_enter Try.func18, Try.ntmps18
  go_wp2_with fail
  go_loopg [1, 2] 258 (fun g v1 v2 w' => ∃ i : Nat, v2 = .int .i64 (i : Int) ∧ Hid (i ≤ 256 ∧ 256 < g + i) ∧ Hid ((Kd.int .i64).R tI w' w.heap.size (fun _ => True) v1 (nat (boxT.take i))) ∧ Hid (Below w.heap.size w w'))
  case atStart => exact ⟨0, rfl, Lib.hid ⟨by omega, by omega⟩, Lib.hid (Kd.R_nil _ _ _ _ _), Lib.hid (Below.refl _ _)⟩
  case round =>
    obtain ⟨i, rfl, HJ, HV, HB⟩ := hrel
    cases gk with
    | zero => have := HJ.out; omega
    | succ k =>
      by_cases hi : i < 256
      · have HJ' := Lib.hid (show i < 256 ∧ 256 < (k + 1) + i from ⟨hi, HJ.out.2⟩)
        have HX := Lib.hid (fun W => refbox_any i W hi)
        have HS := Lib.hid (nat_snoc (l := boxT) (j := i) (by rw [boxT_len]; exact hi))
        have HL := Lib.hid (show (nat (boxT.take i)).length = i from by rw [nat_length, List.length_take, boxT_len]; omega)
        have z0 : (i : Int) < 256 := by omega
        generalize boxT.getD i 0 = y at *
        generalize nat (boxT.take i) = xs at *
        clear hi HJ
        go_wp2_with (first
          | (go_at_call 15; refine (HX.out _).mono ?_; rintro e w1 ⟨rfl, hw1⟩; (rw [hw1]); clear hw1 w1)
          | (at_builtin; refine app1 (w0 := w) .i64 w.heap.size (.tmp 7) (.tmp 10) 34 tI 8 rfl rfl Try.underlying34 info_i (by decide) u1 xs (y : Int) rfl rfl HV.out HB.out HB.out.size (by have := HL.out; have := HJ'.out; omega) ?_; intro v8 w8 hr8 hb8 _; (have HR8 := Lib.hid hr8); (have HB8 := Lib.hid hb8); clear hr8 hb8))
        go_roundg k
        case measure => have := HJ'.out; omega
        case rel => exact ⟨i + 1, by go_num, Lib.hid (by have := HJ'.out; omega), Lib.hid (by rw [← HS.out]; exact HR8.out), HB8⟩
      · obtain rfl : i = 256 := by have := HJ.out; omega
        clear hi HJ
        have HV' := Lib.hid (show (Kd.int .i64).R tI wr w.heap.size (fun _ => True) u1 (nat boxT) from by have := HV.out; rwa [List.take_of_length_le (by rw [boxT_len]; exact Nat.le_refl _)] at this)
        clear HV
        go_wp2_with fail
        go_ret
        exact ⟨_, rfl, HV'.out, HB.out⟩
end Go.Proofs.Ytblnclooobggnaa.A
