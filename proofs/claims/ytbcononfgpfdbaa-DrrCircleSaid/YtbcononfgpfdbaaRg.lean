/-
  drr: how costs and members that are arguments read.
-/
import Derived.Test.YtbcononfgpfdbaaRd
namespace Go.Proofs.Ytbcononfgpfdbaa.Rd
open Go.RowKit Go.ChangeShapes Go.WideShapes Go.Deep Go.Proofs.Ytbcononfgpfdbaa.L Go.Proofs.YtbcononfgpfdbaaW.PrintWords

theorem wf_u16 {x : Int} (h : (Lit.int .u16 x).wf = true) : 0 ≤ x ∧ x < 65536 := by
  simp only [Lit.wf, IntKind.min, IntKind.max, IntKind.signed, IntKind.bits] at h
  simp at h
  omega
theorem rd_u16s : Rd Try.prog 22 (Kd.slice 33 (Kd.int .u16)) (fun l => (∀ x ∈ l, (Lit.int .u16 x).wf = true) ∧ l.length * 2 ≤ 140737488351232) :=
  rd_slice Try.underlying22 (by kernel_rfl) (by kernel_rfl) (rd_int Try.underlying33)
theorem rd_u64s : Rd Try.prog 39 (Kd.slice 29 (Kd.int .u64)) (fun l => (∀ x ∈ l, (Lit.int .u64 x).wf = true) ∧ l.length * 8 ≤ 140737488351232) :=
  rd_slice Try.underlying39 (by kernel_rfl) (by kernel_rfl) (rd_int Try.underlying29)
end Go.Proofs.Ytbcononfgpfdbaa.Rd
