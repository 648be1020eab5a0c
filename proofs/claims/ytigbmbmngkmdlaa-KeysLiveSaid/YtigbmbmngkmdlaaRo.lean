/-
  keys: how calls that are an argument read.
-/
import Derived.Test.YtigbmbmngkmdlaaRd
import Derived.Test.YtigbmbmngkmdlaaKe
namespace Go.Proofs.Ytigbmbmngkmdlaa.Rd
open Go.RowKit Go.ChangeShapes Go.WideShapes Go.Deep Go.Proofs.Ytigbmbmngkmdlaa.L Go.Proofs.YtigbmbmngkmdlaaW.PrintWords

def okOp (o : Ke.OpD) : Prop := (Lit.int .i64 o.1).wf = true ∧ (Lit.int .u64 o.2.1).wf = true ∧ (∀ x ∈ o.2.2, (Lit.int .u8 x).wf = true) ∧ o.2.2.length * 1 ≤ 140737488351232
theorem rd_op : Rd Try.prog 43 Ke.kOp okOp := by
  refine rd_struct Try.underlying43 (by kernel_rfl) ?_
  refine rdf_cons (d := Kd.int .i64) (d2 := Kd.pair (Kd.int .u64) (Kd.slice 5 (Kd.int .u8))) (ok := fun t => (Lit.int .i64 t).wf = true) (ok2 := fun x => (Lit.int .u64 x.1).wf = true ∧ (∀ y ∈ x.2, (Lit.int .u8 y).wf = true) ∧ x.2.length * 1 ≤ 140737488351232) (off := 1) ?_ ?_ ?_ ?_
  · kernel_rfl
  · rfl
  · exact rd_int Try.underlying3
  · refine rdf_cons (d := Kd.int .u64) (d2 := Kd.slice 5 (Kd.int .u8)) (ok := fun t => (Lit.int .u64 t).wf = true) (ok2 := fun l => (∀ x ∈ l, (Lit.int .u8 x).wf = true) ∧ l.length * 1 ≤ 140737488351232) (off := 2) ?_ ?_ ?_ ?_
    · kernel_rfl
    · rfl
    · exact rd_int Try.underlying22
    · exact rdf_one (by kernel_rfl) rd_bytes
theorem rd_ops : Rd Try.prog 39 (Kd.slice 43 Ke.kOp) (fun l => (∀ f ∈ l, okOp f) ∧ l.length * 40 ≤ 140737488351232) :=
  rd_slice Try.underlying39 (by kernel_rfl) (by kernel_rfl) rd_op
end Go.Proofs.Ytigbmbmngkmdlaa.Rd
