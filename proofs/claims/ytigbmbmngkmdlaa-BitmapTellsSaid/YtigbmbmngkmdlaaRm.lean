/-
  bitmap: how a map that is an argument reads.
-/
import Derived.Test.YtigbmbmngkmdlaaRd
namespace Go.Proofs.Ytigbmbmngkmdlaa.Rd
open Go.RowKit Go.ChangeShapes Go.WideShapes Go.Deep Go.Proofs.Ytigbmbmngkmdlaa.L Go.Proofs.YtigbmbmngkmdlaaW.PrintWords

def kMap : Kd (Int × Int) := Kd.pair (Kd.int .i64) (Kd.int .u64)
theorem rd_map : Rd Try.prog 24 kMap (fun x => (Lit.int .i64 x.1).wf = true ∧ (Lit.int .u64 x.2).wf = true) := by
  refine rd_struct Try.underlying24 (by kernel_rfl) ?_
  refine rdf_cons (d := Kd.int .i64) (d2 := Kd.int .u64) (ok := fun t => (Lit.int .i64 t).wf = true) (ok2 := fun t => (Lit.int .u64 t).wf = true) (off := 1) ?_ ?_ ?_ ?_
  · kernel_rfl
  · rfl
  · exact rd_int Try.underlying3
  · exact rdf_one (by kernel_rfl) (rd_int Try.underlying22)
theorem map_cells {W : World} {a : Int × Int} {cs : Array Value} (h : kMap.K W a cs.toList) (hw : (Lit.int .u64 a.2).wf = true) : ∃ x : Nat, a.2 = x ∧ x < 2 ^ 64 ∧ cs = #[.int .i64 a.1, .int .u64 x] := by
  obtain ⟨u, v, hcs, h1, h2⟩ := h
  rw [show u = [Value.int .i64 a.1] from h1, show v = [Value.int .u64 a.2] from h2] at hcs
  obtain ⟨h0, h64⟩ := wf_u64 hw
  obtain ⟨x, hx⟩ := Int.eq_ofNat_of_zero_le h0
  refine ⟨x, hx, by omega, ?_⟩
  rw [hx] at hcs
  apply Array.ext'
  simpa using hcs
end Go.Proofs.Ytigbmbmngkmdlaa.Rd
