/-
  sha: word.
-/
import Derived.Test.YtagfplcafeblbaaHc
import Derived.Test.YtagfplcafeblbaaHe
import Derived.Test.YtagfplcafeblbaaN
import Derived.Deep.QuietTactic
import Derived.BigQuiet
namespace Go.Proofs.Ytagfplcafeblbaa.H
open Go.RowKit Go.Proofs.Ytagfplcafeblbaa.L Go.Proofs.Ytagfplcafeblbaa.N Go.Proofs.YtagfplcafeblbaaW.PrintWords

theorem or_add (i x y : Nat) (hx : x % 2 ^ i = 0) (hx1 : x < 4294967296) (hy : y < 2 ^ i) (hy1 : y < 4294967296) : bits .or .u32 (x : Int) (y : Int) = ((x + y : Nat) : Int) := by
  have := bits_join .u32 32 (by decide) wraps_u32 i (x : Int) (y : Int) (by omega) (by exact_mod_cast hx) (by omega) (by omega) (by exact_mod_cast hy) (by omega)
  rw [this]
  omega
set_option maxRecDepth 100000 in
set_option maxHeartbeats 1600000 in
theorem word_any (l : List Nat) (A : Option Addr) (c : Nat) (w : World) (hC : (Kd.int .u8).C w A l.length (nat l)) (h4 : 4 ≤ l.length) (hl : ∀ x ∈ l, x < 256) :
    Calls Try.prog 54 #[.slice A l.length c] w fun e w' => e = .returned (.int .u32 (wordN l 0 : Nat)) ∧ ∃ n, w' = w.drewN n := by
  obtain ⟨b, off, rfl, hb, hc⟩ := B_at hC (by omega)
  have c0 : w.cell? ⟨b, off, none⟩ = _ := hc 0 (by omega)
  have c1 := hc 1 (by omega)
  have c2 := hc 2 (by omega)
  have c3 := hc 3 (by omega)
  have h0 := getD_lt (show 0 < l.length by omega) hl
  have h1 := getD_lt (show 1 < l.length by omega) hl
  have h2 := getD_lt (show 2 < l.length by omega) hl
  have h3 := getD_lt (show 3 < l.length by omega) hl
  have HW := Lib.hid (show wordN l 0 = l.getD 0 0 * 16777216 + l.getD 1 0 * 65536 + l.getD 2 0 * 256 + l.getD 3 0 from rfl)
  clear hc hC hl
  generalize l.getD 0 0 = x0 at *
  generalize l.getD 1 0 = x1 at *
  generalize l.getD 2 0 = x2 at *
  generalize l.getD 3 0 = x3 at *
  have HE := Lib.hid (show bits .or .u32 (bits .or .u32 (bits .or .u32 ((x0 : Int) * 16777216) ((x1 : Int) * 65536)) ((x2 : Int) * 256)) (x3 : Int) = ((x0 * 16777216 + x1 * 65536 + x2 * 256 + x3 : Nat) : Int) from by
    have e1 := or_add 24 (x0 * 16777216) (x1 * 65536) (by omega) (by omega) (by omega) (by omega)
    have e2 := or_add 16 (x0 * 16777216 + x1 * 65536) (x2 * 256) (by omega) (by omega) (by omega) (by omega)
    have e3 := or_add 8 (x0 * 16777216 + x1 * 65536 + x2 * 256) x3 (by omega) (by omega) (by omega) (by omega)
    rw [Int.natCast_mul, Int.natCast_mul] at e1
    rw [Int.natCast_mul x2] at e2
    rw [show ((x0 : Int) * 16777216) = (x0 : Int) * ((16777216 : Nat) : Int) from rfl, show ((x1 : Int) * 65536) = (x1 : Int) * ((65536 : Nat) : Int) from rfl, show ((x2 : Int) * 256) = (x2 : Int) * ((256 : Nat) : Int) from rfl, e1, e2, e3])
  have z0 : (0 : Int) < (l.length : Int) := by omega
  have z1 : (1 : Int) < (l.length : Int) := by omega
  have z2 : (2 : Int) < (l.length : Int) := by omega
  have z3 : (3 : Int) < (l.length : Int) := by omega
  have z4 : 0 < l.length := by omega
  clear h4
  go_enter Try.func54, Try.ntmps54
  go_wp2_with fail
  go_quiet (fail)
  go_outline
  go_wp2_with fail
  go_outline
  go_ret
  exact ⟨by rw [HW.out, HE.out]; rfl, _, rfl⟩
end Go.Proofs.Ytagfplcafeblbaa.H
