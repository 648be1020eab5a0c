/-
  style: how a style that is an argument reads; rows of ints.
-/
import Derived.Test.YthgdbdhonhkkpaaRd
import Derived.Test.YthgdbdhonhkkpaaTc
namespace Go.Proofs.Ythgdbdhonhkkpaa.Rd
open Go.RowKit Go.ChangeShapes Go.WideShapes Go.Deep Go.Proofs.Ythgdbdhonhkkpaa.L Go.Proofs.YthgdbdhonhkkpaaW.PrintWords

def kSty : Kd (Int × Int × Int) := Kd.pair (Kd.int .u8) (Kd.pair (Kd.int .u32) (Kd.int .u32))
theorem rd_style : Rd Try.prog 57 kSty (fun x => (Lit.int .u8 x.1).wf = true ∧ (Lit.int .u32 x.2.1).wf = true ∧ (Lit.int .u32 x.2.2).wf = true) := by
  refine rd_struct Try.underlying57 (by kernel_rfl) ?_
  refine rdf_cons (d := Kd.int .u8) (d2 := Kd.pair (Kd.int .u32) (Kd.int .u32)) (ok := fun t => (Lit.int .u8 t).wf = true) (ok2 := fun t => (Lit.int .u32 t.1).wf = true ∧ (Lit.int .u32 t.2).wf = true) (off := 1) ?_ ?_ ?_ ?_
  · kernel_rfl
  · rfl
  · exact rd_int Try.underlying5
  refine rdf_cons (d := Kd.int .u32) (d2 := Kd.int .u32) (ok := fun t => (Lit.int .u32 t).wf = true) (ok2 := fun t => (Lit.int .u32 t).wf = true) (off := 2) ?_ ?_ ?_ ?_
  · kernel_rfl
  · rfl
  · exact rd_int Try.underlying55
  · exact rdf_one (by kernel_rfl) (rd_int Try.underlying55)
theorem style_cells {W : World} {a : Int × Int × Int} {cs : Array Value} (h : kSty.K W a cs.toList) (hw : (Lit.int .u8 a.1).wf = true ∧ (Lit.int .u32 a.2.1).wf = true ∧ (Lit.int .u32 a.2.2).wf = true) : ∃ s : St.Sty, St.okS s ∧ cs = St.stA s := by
  obtain ⟨u, v, hcs, h1, v1, v2, rfl, h2, h3⟩ := h
  rw [show u = [Value.int .u8 a.1] from h1, show v1 = [Value.int .u32 a.2.1] from h2, show v2 = [Value.int .u32 a.2.2] from h3] at hcs
  obtain ⟨p0, p1⟩ := wf_u8 hw.1
  obtain ⟨q0, q1⟩ := wf_u32 hw.2.1
  obtain ⟨r0, r1⟩ := wf_u32 hw.2.2
  refine ⟨(a.1.toNat, a.2.1.toNat, a.2.2.toNat), ⟨by dsimp only; omega, by dsimp only; omega, by dsimp only; omega⟩, ?_⟩
  unfold St.stA
  dsimp only
  rw [Int.toNat_of_nonneg p0, Int.toNat_of_nonneg q0, Int.toNat_of_nonneg r0]
  apply Array.ext'
  simpa using hcs
theorem rd_ints : Rd Try.prog 72 (Kd.slice 3 (Kd.int .i64)) (fun l => (∀ x ∈ l, (Lit.int .i64 x).wf = true) ∧ l.length * 8 ≤ 140737488351232) :=
  rd_slice Try.underlying72 (by kernel_rfl) (by kernel_rfl) (rd_int Try.underlying3)
theorem nat_arg8 {x : Int} (h : (Lit.int .u8 x).wf = true) : ∃ n : Nat, x = (n : Int) ∧ n < 256 := by
  obtain ⟨p0, p1⟩ := wf_u8 h
  exact ⟨x.toNat, by omega, by omega⟩
end Go.Proofs.Ythgdbdhonhkkpaa.Rd
