/-
  aes: AesBoxes.
-/
import Derived.Test.YtblnclooobggnaaAk
import Derived.Test.YtblnclooobggnaaAl
namespace Go.Proofs.Ytblnclooobggnaa.A
open Go.RowKit Go.Proofs.Ytblnclooobggnaa.L Go.Proofs.Ytblnclooobggnaa.N Go.Proofs.YtblnclooobggnaaW.PrintWords

set_option maxRecDepth 100000 in
set_option maxHeartbeats 3200000 in
theorem boxes_walk (b : Int) (w : World) (hb : 0 ≤ b ∧ b < 256) : Calls Try.prog 3 #[.int .u8 b] w fun e w' => e = .returned (.bool true) ∧ Below w.heap.size w w' := by
  obtain ⟨n, rfl⟩ : ∃ n : Nat, b = (n : Int) := ⟨b.toNat, by omega⟩
  have hn : n < 256 := by omega
  have HB := Lib.hid (fun W => box_any n W hn)
  have HR := Lib.hid (fun W => refbox_any n W hn)
  have HV := Lib.hid (show boxT.getD n 0 < 256 from bxv_lt n)
  have z1 : (n : Int) < 256 := by omega
  clear hn hb
  generalize boxT.getD n 0 = V at *
  have w1 : (V : Int) < 256 := by have := HV.out; omega
  go_enter Try.func3, Try.ntmps3
  go_wp2_with (first
    | (go_at_call 13; refine (alive_any _).mono ?_; rintro e w1 ⟨rfl, hb1⟩; (have HB1 := Lib.hid hb1); clear hb1)
    | (go_at_call 14; refine (HB.out _).mono ?_; rintro e w2 ⟨rfl, hb2⟩; (have HB2 := Lib.hid hb2); clear hb2)
    | (go_at_call 15; refine (HR.out _).mono ?_; rintro e w3 ⟨rfl, hw3⟩; (rw [hw3]); clear hw3 w3))
  go_ret
  exact ⟨rfl, HB1.out.trans ⟨HB2.out.os, HB2.out.tape, HB2.out.output, HB2.out.size, fun k hk => HB2.out.block k (by have := HB1.out.size; omega)⟩⟩
end Go.Proofs.Ytblnclooobggnaa.A
