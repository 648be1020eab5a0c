/-
  ansi: how an event that is an argument reads; rows of points.
-/
import Derived.Test.YtbcononfgpfdbaaRd
import Derived.Test.YtbcononfgpfdbaaUb
namespace Go.Proofs.Ytbcononfgpfdbaa.Rd
open Go.RowKit Go.ChangeShapes Go.WideShapes Go.Deep Go.Proofs.Ytbcononfgpfdbaa.L Go.Proofs.YtbcononfgpfdbaaW.PrintWords

theorem rd_i64s : Rd Try.prog 40 (Kd.slice 3 (Kd.int .i64)) (fun l => (∀ x ∈ l, (Lit.int .i64 x).wf = true) ∧ l.length * 8 ≤ 140737488351232) :=
  rd_slice Try.underlying40 (by kernel_rfl) (by kernel_rfl) (rd_int Try.underlying3)
theorem rd_points : Rd Try.prog 52 (Kd.slice 21 (Kd.int .i32)) (fun l => (∀ x ∈ l, (Lit.int .i32 x).wf = true) ∧ l.length * 4 ≤ 140737488351232) :=
  rd_slice Try.underlying52 (by kernel_rfl) (by kernel_rfl) (rd_int Try.underlying21)
abbrev okI (k : IntKind) (t : Int) : Prop := (Lit.int k t).wf = true
abbrev okL (t : List Int) : Prop := (∀ x ∈ t, (Lit.int .i64 x).wf = true) ∧ t.length * 8 ≤ 140737488351232
abbrev okS (s : ByteArray) : Prop := s.size ≤ reachBytes
theorem rd_event : Rd Try.prog 67 An.kE (fun x => okI .i64 x.1 ∧ okI .i32 x.2.1 ∧ okI .u8 x.2.2.1 ∧ okI .u8 x.2.2.2.1 ∧ okI .u8 x.2.2.2.2.1 ∧ okL x.2.2.2.2.2.1 ∧ okS x.2.2.2.2.2.2) := by
  refine rd_struct Try.underlying67 (by kernel_rfl) ?_
  refine rdf_cons (d := Kd.int .i64) (d2 := Kd.pair (Kd.int .i32) (Kd.pair (Kd.int .u8) (Kd.pair (Kd.int .u8) (Kd.pair (Kd.int .u8) (Kd.pair (Kd.slice 3 (Kd.int .i64)) Kd.string))))) (ok := okI .i64) (ok2 := fun x => okI .i32 x.1 ∧ okI .u8 x.2.1 ∧ okI .u8 x.2.2.1 ∧ okI .u8 x.2.2.2.1 ∧ okL x.2.2.2.2.1 ∧ okS x.2.2.2.2.2) (off := 1) ?_ ?_ ?_ ?_
  · kernel_rfl
  · rfl
  · exact rd_int Try.underlying3
  refine rdf_cons (d := Kd.int .i32) (d2 := Kd.pair (Kd.int .u8) (Kd.pair (Kd.int .u8) (Kd.pair (Kd.int .u8) (Kd.pair (Kd.slice 3 (Kd.int .i64)) Kd.string)))) (ok := okI .i32) (ok2 := fun x => okI .u8 x.1 ∧ okI .u8 x.2.1 ∧ okI .u8 x.2.2.1 ∧ okL x.2.2.2.1 ∧ okS x.2.2.2.2) (off := 2) ?_ ?_ ?_ ?_
  · kernel_rfl
  · rfl
  · exact rd_int Try.underlying21
  refine rdf_cons (d := Kd.int .u8) (d2 := Kd.pair (Kd.int .u8) (Kd.pair (Kd.int .u8) (Kd.pair (Kd.slice 3 (Kd.int .i64)) Kd.string))) (ok := okI .u8) (ok2 := fun x => okI .u8 x.1 ∧ okI .u8 x.2.1 ∧ okL x.2.2.1 ∧ okS x.2.2.2) (off := 3) ?_ ?_ ?_ ?_
  · kernel_rfl
  · rfl
  · exact rd_int Try.underlying5
  refine rdf_cons (d := Kd.int .u8) (d2 := Kd.pair (Kd.int .u8) (Kd.pair (Kd.slice 3 (Kd.int .i64)) Kd.string)) (ok := okI .u8) (ok2 := fun x => okI .u8 x.1 ∧ okL x.2.1 ∧ okS x.2.2) (off := 4) ?_ ?_ ?_ ?_
  · kernel_rfl
  · rfl
  · exact rd_int Try.underlying5
  refine rdf_cons (d := Kd.int .u8) (d2 := Kd.pair (Kd.slice 3 (Kd.int .i64)) Kd.string) (ok := okI .u8) (ok2 := fun x => okL x.1 ∧ okS x.2) (off := 5) ?_ ?_ ?_ ?_
  · kernel_rfl
  · rfl
  · exact rd_int Try.underlying5
  refine rdf_cons (d := Kd.slice 3 (Kd.int .i64)) (d2 := Kd.string) (ok := okL) (ok2 := okS) (off := 6) ?_ ?_ ?_ ?_
  · kernel_rfl
  · rfl
  · exact rd_i64s
  · exact rdf_one (by kernel_rfl) (rd_string Try.underlying9)
theorem event_cells {W : World} {a : An.Ev} {cs : Array Value} (h : An.kE.K W a cs.toList) : ∃ A c, cs = An.evA a A c ∧ a.2.2.2.2.2.1.length ≤ c ∧ (Kd.int .i64).C W A a.2.2.2.2.2.1.length a.2.2.2.2.2.1 := by
  obtain ⟨A, c, hcs, h1, h2⟩ := An.E_cells.1 h
  refine ⟨A, c, ?_, h1, h2⟩
  apply Array.ext'
  simpa using hcs
end Go.Proofs.Ytbcononfgpfdbaa.Rd
