/-
  keys: how steps that are an argument read.
-/
import Derived.Test.YtigbmbmngkmdlaaRd
import Derived.Test.YtigbmbmngkmdlaaKj
namespace Go.Proofs.Ytigbmbmngkmdlaa.Rd
open Go.RowKit Go.ChangeShapes Go.WideShapes Go.Deep Go.Proofs.Ytigbmbmngkmdlaa.L Go.Proofs.YtigbmbmngkmdlaaW.PrintWords

def okSt (o : Ke.StD) : Prop := ((∀ x ∈ o.1, (Lit.int .u8 x).wf = true) ∧ o.1.length * 1 ≤ 140737488351232) ∧ True ∧ True ∧ (Lit.int .u8 o.2.2.2).wf = true
theorem rd_step : Rd Try.prog 65 Ke.kSt okSt := by
  refine rd_struct Try.underlying65 (by kernel_rfl) ?_
  refine rdf_cons (d := Kd.slice 5 (Kd.int .u8)) (d2 := Kd.pair Kd.bool (Kd.pair Kd.bool (Kd.int .u8))) (ok := fun l => (∀ x ∈ l, (Lit.int .u8 x).wf = true) ∧ l.length * 1 ≤ 140737488351232) (ok2 := fun x => True ∧ True ∧ (Lit.int .u8 x.2.2).wf = true) (off := 1) ?_ ?_ ?_ ?_
  · kernel_rfl
  · rfl
  · exact rd_bytes
  · refine rdf_cons (d := Kd.bool) (d2 := Kd.pair Kd.bool (Kd.int .u8)) (ok := fun _ => True) (ok2 := fun x => True ∧ (Lit.int .u8 x.2).wf = true) (off := 2) ?_ ?_ ?_ ?_
    · kernel_rfl
    · rfl
    · exact rd_bool Try.underlying4
    · refine rdf_cons (d := Kd.bool) (d2 := Kd.int .u8) (ok := fun _ => True) (ok2 := fun x => (Lit.int .u8 x).wf = true) (off := 3) ?_ ?_ ?_ ?_
      · kernel_rfl
      · rfl
      · exact rd_bool Try.underlying4
      · exact rdf_one (by kernel_rfl) (rd_int Try.underlying5)
theorem rd_steps : Rd Try.prog 61 (Kd.slice 65 Ke.kSt) (fun l => (∀ f ∈ l, okSt f) ∧ l.length * 32 ≤ 140737488351232) :=
  rd_slice Try.underlying61 (by kernel_rfl) (by kernel_rfl) rd_step
end Go.Proofs.Ytigbmbmngkmdlaa.Rd
