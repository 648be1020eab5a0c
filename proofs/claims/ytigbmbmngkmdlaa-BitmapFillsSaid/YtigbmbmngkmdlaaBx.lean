/-
  bitmap: the law BitmapFills, of a byte.
-/
import Derived.Test.YtigbmbmngkmdlaaBw
namespace Go.Proofs.Ytigbmbmngkmdlaa.Bm
open Go.RowKit Go.Proofs.Ytigbmbmngkmdlaa.L Go.Proofs.Ytigbmbmngkmdlaa.Bt Go.Proofs.YtigbmbmngkmdlaaW.PrintWords

theorem fills_int (a : Int) (l : List Int) (A : Option Addr) (c : Nat) (w : World) (ha : 0 ≤ a ∧ a < 256) (hC : (Kd.int .u8).C w A l.length l) (hb : okB l) :
    Calls Try.prog 11 #[.int .u8 a, .slice A l.length c] w fun e w' => e = .returned (.bool true) ∧ Below w.heap.size w w' := by
  obtain ⟨k, rfl⟩ := Int.eq_ofNat_of_zero_le ha.1
  exact fills_walk k l A c w (by omega) hC hb
end Go.Proofs.Ytigbmbmngkmdlaa.Bm
