/-
  style: two of the document's styles, when they are equal.
-/
import Derived.Test.YthgdbdhonhkkpaaTh
namespace Go.Proofs.Ythgdbdhonhkkpaa.St
open Go.RowKit Go.Proofs.Ythgdbdhonhkkpaa.L Go.Proofs.Ythgdbdhonhkkpaa.V Go.Proofs.Ythgdbdhonhkkpaa.N Go.Proofs.YthgdbdhonhkkpaaW.PrintWords

theorem part_plain {P : Program} {e : TypeId} {d : TypeDesc} (he : P.underlying e = some d) (hd : d.isRow = false) {xs : Array Value} {i : Nat} {v : Value} (h : xs[i]? = some v) (W : World) : (part e xs i).run P W = .ok v W := by
  have hagg : (isAgg e).run P W = .ok false W := by
    unfold isAgg
    rw [Sem.run_bind, run_underlying he W]
    simp only [Result.andThen_ok]
    cases d <;> first | rfl | cases hd
  simp only [part, Sem.run_bind, hagg, Result.andThen_ok, h]
  rfl
theorem bool_items {P : Program} {e : TypeId} (he : P.underlying e = some .bool) (xs : Array Value) (d : Nat) (W : World) : ∀ is : List Nat, (∀ i ∈ is, ∃ b, xs[i]? = some (.bool b)) → (Op.eqItems (d + 1) e 1 xs xs is).run P W = .ok true W
  | [], _ => by simp [Op.eqItems]
  | i :: is, h => by
    obtain ⟨b, hb⟩ := h i (by simp)
    have ih := bool_items he xs d W is (fun j hj => h j (by simp [hj]))
    simp only [Op.eqItems, Sem.run_bind, Nat.mul_one, part_plain he rfl hb W, run_equalIn_bool' W d e b b he, Result.andThen_ok, beq_self_eq_true, Bool.not_true, Bool.false_eq_true, if_false, ih]
theorem rfA_pre {l : List Bool} (hl : l.length = 8) (a c : Nat) : (rfA l a c).extract 0 8 = (l.map Value.bool).toArray := by
  unfold rfA
  rw [List.extract_toArray]
  simp [hl]
theorem eq_R {l : List Bool} (hl : l.length = 8) (a c : Nat) (W : World) : (Op.equalIn 10000 tR (.agg (rfA l a c)) (.agg (rfA l a c))).run Try.prog W = .ok true W := by
  have hs8 : (Try.prog.info? 61).map (·.size) = some 8 := by kernel_rfl
  obtain ⟨i8, hi8, hz8⟩ := Option.map_eq_some_iff.1 hs8
  have hsb : (Try.prog.info? 4).map (·.size) = some 1 := by kernel_rfl
  have hp0 : (part 61 (rfA l a c) 0).run Try.prog W = .ok (.agg (l.map Value.bool).toArray) W := by
    have hagg : (isAgg 61).run Try.prog W = .ok true W := by
      unfold isAgg
      rw [Sem.run_bind, run_underlying Try.underlying61 W]
      rfl
    simp only [part, Sem.run_bind, hagg, Result.andThen_ok, ↓reduceIte, run_sizeOf W hi8, show Try.prog.cellsOf 61 = 8 from by kernel_rfl, Nat.zero_add, rfA_pre hl, Sem.run_pure]
  have hc : Try.prog.cellsOf 4 = 1 := by kernel_rfl
  obtain ⟨ib, hib, _⟩ := Option.map_eq_some_iff.1 hsb
  have he0 : ∀ d, (Op.equalIn (d + 1 + 1) 61 (.agg (l.map Value.bool).toArray) (.agg (l.map Value.bool).toArray)).run Try.prog W = .ok true W := fun d => by
    rw [run_equalIn_array W (d + 1) _ _ Try.underlying61 hib, hc]
    exact bool_items Try.underlying4 _ d W _ (fun i hi => ⟨l.getD i false, by
      have : i < 8 := by simpa using hi
      rw [List.getElem?_toArray, List.getElem?_map, List.getD_eq_getElem?_getD, List.getElem?_eq_getElem (by omega)]
      rfl⟩)
  have h8 : (rfA l a c)[8]? = some (.int .u32 (a : Int)) := by
    unfold rfA
    rw [List.getElem?_toArray, List.getElem?_append_right (by rw [List.length_map]; omega), List.length_map, hl]
    rfl
  have h9 : (rfA l a c)[9]? = some (.int .u32 (c : Int)) := by
    unfold rfA
    rw [List.getElem?_toArray, List.getElem?_append_right (by rw [List.length_map]; omega), List.length_map, hl]
    rfl
  have hp1 := part_plain Try.underlying55 rfl h8 W
  have hp2 := part_plain Try.underlying55 rfl h9 W
  have key : ∀ d, (Op.equalIn (d + 1 + 1 + 1) tR (.agg (rfA l a c)) (.agg (rfA l a c))).run Try.prog W = .ok true W := fun d => by
    rw [run_equalIn_struct W (d + 1 + 1) tR _ _ (by kernel_rfl) (by kernel_rfl)]
    have e0 := he0 d
    have e1 := run_equalIn_int (P := Try.prog) W (d + 1) 55 .u32 .u32 (a : Int) (a : Int) Try.underlying55
    have e2 := run_equalIn_int (P := Try.prog) W (d + 1) 55 .u32 .u32 (c : Int) (c : Int) Try.underlying55
    simp only [Program.fieldsOf, Try.underlying63]
    simp [Op.eqFields, hp0, hp1, hp2, e0, e1, e2]
  exact key 9997
end Go.Proofs.Ythgdbdhonhkkpaa.St
