/-
  frag: how a part that is an argument reads; rows of parts.
-/
import Derived.Test.YthgdbdhonhkkpaaRd
import Derived.Test.YthgdbdhonhkkpaaGd
namespace Go.Proofs.Ythgdbdhonhkkpaa.Rd
open Go.RowKit Go.ChangeShapes Go.WideShapes Go.Deep Go.Proofs.Ythgdbdhonhkkpaa.L Go.Proofs.YthgdbdhonhkkpaaW.PrintWords

def okP (x : Fg.Pt) : Prop := (Lit.int .u64 x.1).wf = true ∧ (Lit.int .i64 x.2.1).wf = true ∧ (Lit.int .i64 x.2.2.1).wf = true ∧ (∀ y ∈ x.2.2.2, (Lit.int .u8 y).wf = true) ∧ x.2.2.2.length * 1 ≤ 140737488351232
theorem rd_part : Rd Try.prog 38 Fg.kP okP := by
  refine rd_struct Try.underlying38 (by kernel_rfl) ?_
  refine rdf_cons (d := Kd.int .u64) (d2 := Kd.pair (Kd.int .i64) (Kd.pair (Kd.int .i64) (Kd.slice 5 (Kd.int .u8)))) (ok := fun t => (Lit.int .u64 t).wf = true) (ok2 := fun t => (Lit.int .i64 t.1).wf = true ∧ (Lit.int .i64 t.2.1).wf = true ∧ (∀ y ∈ t.2.2, (Lit.int .u8 y).wf = true) ∧ t.2.2.length * 1 ≤ 140737488351232) (off := 1) ?_ ?_ ?_ ?_
  · kernel_rfl
  · rfl
  · exact rd_int Try.underlying22
  refine rdf_cons (d := Kd.int .i64) (d2 := Kd.pair (Kd.int .i64) (Kd.slice 5 (Kd.int .u8))) (ok := fun t => (Lit.int .i64 t).wf = true) (ok2 := fun t => (Lit.int .i64 t.1).wf = true ∧ (∀ y ∈ t.2, (Lit.int .u8 y).wf = true) ∧ t.2.length * 1 ≤ 140737488351232) (off := 2) ?_ ?_ ?_ ?_
  · kernel_rfl
  · rfl
  · exact rd_int Try.underlying3
  refine rdf_cons (d := Kd.int .i64) (d2 := Kd.slice 5 (Kd.int .u8)) (ok := fun t => (Lit.int .i64 t).wf = true) (ok2 := fun t => (∀ y ∈ t, (Lit.int .u8 y).wf = true) ∧ t.length * 1 ≤ 140737488351232) (off := 3) ?_ ?_ ?_ ?_
  · kernel_rfl
  · rfl
  · exact rd_int Try.underlying3
  · exact rdf_one (by kernel_rfl) rd_bytes
theorem part_cells {W : World} {a : Fg.Pt} {cs : Array Value} (h : Fg.kP.K W a cs.toList) : ∃ A c, cs = #[.int .u64 a.1, .int .i64 a.2.1, .int .i64 a.2.2.1, .slice A a.2.2.2.length c] ∧ a.2.2.2.length ≤ c ∧ (Kd.int .u8).C W A a.2.2.2.length a.2.2.2 := by
  obtain ⟨A, c, hcs, h1, h2⟩ := Fg.K_cells.1 h
  refine ⟨A, c, ?_, h1, h2⟩
  apply Array.ext'
  simpa using hcs
theorem rd_parts : Rd Try.prog 24 (Kd.slice 38 Fg.kP) (fun l => (∀ x ∈ l, okP x) ∧ l.length * 48 ≤ 140737488351232) :=
  rd_slice Try.underlying24 (by kernel_rfl) (by kernel_rfl) rd_part
end Go.Proofs.Ythgdbdhonhkkpaa.Rd
