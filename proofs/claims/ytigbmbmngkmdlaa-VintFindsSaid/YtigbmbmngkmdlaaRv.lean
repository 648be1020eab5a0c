/-
  vint: how fields read.
-/
import Derived.Test.YtigbmbmngkmdlaaRd
import Derived.Test.YtigbmbmngkmdlaaFl
namespace Go.Proofs.Ytigbmbmngkmdlaa.Rd
open Go.RowKit Go.ChangeShapes Go.WideShapes Go.Deep Go.Proofs.Ytigbmbmngkmdlaa.L Go.Proofs.YtigbmbmngkmdlaaW.PrintWords

def okf (f : V.Fld) : Prop := (Lit.int .u8 f.1).wf = true ∧ (∀ x ∈ f.2, (Lit.int .u8 x).wf = true) ∧ f.2.length * 1 ≤ 140737488351232
theorem rd_field : Rd Try.prog 90 V.kF okf := by
  refine rd_struct Try.underlying90 (by kernel_rfl) ?_
  refine rdf_cons (d := Kd.int .u8) (d2 := Kd.slice 5 (Kd.int .u8)) (ok := fun t => (Lit.int .u8 t).wf = true) (ok2 := fun l => (∀ x ∈ l, (Lit.int .u8 x).wf = true) ∧ l.length * 1 ≤ 140737488351232) (off := 1) ?_ ?_ ?_ ?_
  · kernel_rfl
  · rfl
  · exact rd_int Try.underlying5
  · exact rdf_one (by kernel_rfl) rd_bytes
theorem rd_fields : Rd Try.prog 88 (Kd.slice 90 V.kF) (fun l => (∀ f ∈ l, okf f) ∧ l.length * 32 ≤ 140737488351232) :=
  rd_slice Try.underlying88 (by kernel_rfl) (by kernel_rfl) rd_field
theorem rd_u64s : Rd Try.prog 62 (Kd.slice 22 (Kd.int .u64)) (fun l => (∀ x ∈ l, (Lit.int .u64 x).wf = true) ∧ l.length * 8 ≤ 140737488351232) :=
  rd_slice Try.underlying62 (by kernel_rfl) (by kernel_rfl) (rd_int Try.underlying22)
end Go.Proofs.Ytigbmbmngkmdlaa.Rd
