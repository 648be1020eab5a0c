/-
  How arguments are read: rows of rows of bytes.
-/
import Derived.Test.YtagfplcafeblbaaRd
namespace Go.Proofs.Ytagfplcafeblbaa.Rd
open Go.RowKit Go.Proofs.Ytagfplcafeblbaa.L Go.Proofs.YtagfplcafeblbaaW.PrintWords
theorem rd_rows : Rd Try.prog 40 (Kd.slice 22 (Kd.slice 5 (Kd.int .u8))) (fun l => (∀ x ∈ l, (∀ y ∈ x, (Lit.int .u8 y).wf = true) ∧ x.length * 1 ≤ 140737488351232) ∧ l.length * 24 ≤ 140737488351232) :=
  rd_slice Try.underlying40 (by kernel_rfl) (by kernel_rfl) rd_bytes
end Go.Proofs.Ytagfplcafeblbaa.Rd
