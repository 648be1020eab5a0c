/-
  bitmap: the law BitmapTells, both cases.
-/
import Derived.Test.YtigbmbmngkmdlaaBu
namespace Go.Proofs.Ytigbmbmngkmdlaa.Bm
open Go.RowKit Go.Proofs.Ytigbmbmngkmdlaa.L Go.Proofs.Ytigbmbmngkmdlaa.Bt Go.Proofs.YtigbmbmngkmdlaaW.PrintWords

theorem tells_walk (n : Int) (x : Nat) (m : Int) (y : Nat) (i : Int) (w : World) (hx : x < 2 ^ 64) (hy : y < 2 ^ 64) :
    Calls Try.prog 10 #[.agg #[.int .i64 n, .int .u64 x], .agg #[.int .i64 m, .int .u64 y], .int .i64 i] w fun e w' => e = .returned (.bool true) ∧ Below w.heap.size w w' := by
  cases h : rgt n x
  · exact tells_no n x m y i w hx hy h
  · obtain ⟨N, rfl⟩ : ∃ N : Nat, n = N := ⟨n.toNat, by have := (ofR_yes h).2.2.1; omega⟩
    exact tells_yes N x m y i w hx hy h
end Go.Proofs.Ytigbmbmngkmdlaa.Bm
