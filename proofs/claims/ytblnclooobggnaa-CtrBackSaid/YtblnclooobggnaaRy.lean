/-
  aes: how an array of bytes that is an argument reads.
-/
import Derived.Test.YtblnclooobggnaaRd
import Derived.Test.YtblnclooobggnaaN
namespace Go.Proofs.Ytblnclooobggnaa.Rd
open Go.RowKit Go.ChangeShapes Go.WideShapes Go.Deep Go.Proofs.Ytblnclooobggnaa.L Go.Proofs.Ytblnclooobggnaa.N Go.Proofs.YtblnclooobggnaaW.PrintWords

theorem okWide_array {P : Program} {W : World} {r : Reach} {b0 n : Nat} {t e : TypeId} {v : Value} (ht : P.underlying t = some (.array n e)) (h : Value.okWide P W r b0 t v) : ∃ cs, v = .agg cs ∧ cs.size = P.cellsOf t := by
  simp only [Value.okWide, ht] at h
  obtain ⟨cs, h1, h2, _⟩ := h
  exact ⟨cs, h1, h2⟩
theorem trod_int8 {H : Type} {P : Program} {enc : TypeId × Value → H} {W : World} {fuel : Nat} {t : TypeId} {cs : List Value} {x : DataW H × List MemPlace} (ht : P.underlying t = some (.int .u8)) (h : DataW.trod enc P W 0 (fun _ => true) true fuel t cs = some x) : ∃ z : Int, cs = [.int .u8 z] ∧ (Lit.int .u8 z).wf = true := by
  cases fuel with
  | zero => cases h
  | succ fuel =>
    unfold DataW.trod at h
    rw [ht] at h
    split at h <;> simp_all
set_option maxRecDepth 100000 in
theorem arg_arr8 {H : Type} {enc : TypeId × Value → H} {W : World} {r : Reach} {b0 n : Nat} {t : TypeId} {v : Value} {d : DataW H} {ps : List MemPlace} (ht : Try.prog.underlying t = some (.array n 5)) (hn : Try.prog.cellsOf t = n) (hv : Value.okWide Try.prog W r b0 t v)
    (h : DataW.Trod enc Try.prog W 0 (fun _ => true) true t v d ps) : ∃ l : List Nat, v = .agg (arr .u8 l) ∧ l.length = n ∧ ∀ x ∈ l, x < 256 := by
  obtain ⟨cs, rfl, hsz⟩ := okWide_array ht hv
  obtain ⟨fuel, hf⟩ := h
  obtain ⟨ys, m, rfl, _, hlen, hyl, hi⟩ := DataW.trod_array ht hf
  have hc1 : Try.prog.cellsOf 5 = 1 := by kernel_rfl
  rw [hc1] at hi
  have hl : cs.toList.length = n := by rw [← hn, ← hsz]; simp
  obtain ⟨l, hll, hp⟩ := exists_list (p := fun i (x : Nat) => cs.toList[i]? = some (.int .u8 (x : Int)) ∧ x < 256) n (fun i hin => by
    have h1 := hi i hin
    rw [List.getElem?_eq_getElem (by omega : i < ys.length)] at h1
    obtain ⟨z, hz, hw⟩ := trod_int8 Try.underlying5 h1
    have hz' : (cs.toList.drop (i * 1)).take 1 = [.int .u8 z] := hz
    obtain ⟨q0, q1⟩ := wf_u8 hw
    refine ⟨z.toNat, ?_, by omega⟩
    rw [Int.toNat_of_nonneg q0]
    have := congrArg (fun l => l[0]?) hz'
    simpa using this)
  refine ⟨l, ?_, hll, fun x hx => ?_⟩
  · congr 1
    apply Array.ext'
    refine List.ext_getElem? (fun i => ?_)
    by_cases hin : i < n
    · have e : l[i]? = some (l[i]'(by omega)) := List.getElem?_eq_getElem (by omega)
      rw [(hp i _ e).1]
      unfold arr
      rw [List.toList_toArray, List.getElem?_map, e]
      rfl
    · rw [List.getElem?_eq_none (by omega), List.getElem?_eq_none (by unfold arr; rw [List.toList_toArray, List.length_map]; omega)]
  · obtain ⟨j, hj⟩ := List.getElem?_of_mem hx
    exact (hp j x hj).2
end Go.Proofs.Ytblnclooobggnaa.Rd
