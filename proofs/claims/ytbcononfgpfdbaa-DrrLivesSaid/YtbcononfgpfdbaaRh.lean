/-
  drr: how operations that are an argument read.
-/
import Derived.Test.YtbcononfgpfdbaaRd
import Derived.Test.YtbcononfgpfdbaaDq
namespace Go.Proofs.Ytbcononfgpfdbaa.Rd
open Go.RowKit Go.ChangeShapes Go.WideShapes Go.Deep Go.Proofs.Ytbcononfgpfdbaa.L Go.Proofs.YtbcononfgpfdbaaW.PrintWords

def okOp27 (o : D.OpD) : Prop := (Lit.int .i64 o.1).wf = true ∧ (Lit.int .u64 o.2.1).wf = true ∧ (Lit.int .i64 o.2.2).wf = true
theorem rd_op27 : Rd Try.prog 44 D.kOp okOp27 := by
  refine rd_struct Try.underlying44 (by kernel_rfl) ?_
  refine rdf_cons (d := Kd.int .i64) (d2 := Kd.pair (Kd.int .u64) (Kd.int .i64)) (ok := fun x => (Lit.int .i64 x).wf = true) (ok2 := fun x => (Lit.int .u64 x.1).wf = true ∧ (Lit.int .i64 x.2).wf = true) (off := 1) ?_ ?_ ?_ ?_
  · kernel_rfl
  · rfl
  · exact rd_int Try.underlying3
  · refine rdf_cons (d := Kd.int .u64) (d2 := Kd.int .i64) (ok := fun x => (Lit.int .u64 x).wf = true) (ok2 := fun x => (Lit.int .i64 x).wf = true) (off := 2) ?_ ?_ ?_ ?_
    · kernel_rfl
    · rfl
    · exact rd_int Try.underlying29
    · exact rdf_one (by kernel_rfl) (rd_int Try.underlying3)
theorem rd_ops27 : Rd Try.prog 37 (Kd.slice 44 D.kOp) (fun l => (∀ f ∈ l, okOp27 f) ∧ l.length * 24 ≤ 140737488351232) :=
  rd_slice Try.underlying37 (by kernel_rfl) (by kernel_rfl) rd_op27
end Go.Proofs.Ytbcononfgpfdbaa.Rd
