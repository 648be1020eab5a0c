/-
  vint: how a field that is an argument reads.
-/
import Derived.Test.YtigbmbmngkmdlaaRv
namespace Go.Proofs.Ytigbmbmngkmdlaa.Rd
open Go.RowKit Go.ChangeShapes Go.WideShapes Go.Deep Go.Proofs.Ytigbmbmngkmdlaa.L Go.Proofs.YtigbmbmngkmdlaaW.PrintWords

theorem field_cells {W : World} {a : V.Fld} {cs : Array Value} (h : V.kF.K W a cs.toList) : ∃ A c, cs = #[.int .u8 a.1, .slice A a.2.length c] ∧ a.2.length ≤ c ∧ (Kd.int .u8).C W A a.2.length a.2 := by
  obtain ⟨u, v, hcs, h1, A, c, h2, hc, hC⟩ := h
  rw [show u = [Value.int .u8 a.1] from h1, h2] at hcs
  refine ⟨A, c, ?_, hc, hC⟩
  apply Array.ext'
  simpa using hcs
end Go.Proofs.Ytigbmbmngkmdlaa.Rd
