/-
  sha: constants, word.
-/
import Derived.Test.YtagfplcafeblbaaHb
import Derived.Test.YtagfplcafeblbaaQ
import Derived.Deep.WholeRow
namespace Go.Proofs.Ytagfplcafeblbaa.H
open Go.RowKit Go.Proofs.Ytagfplcafeblbaa.L Go.Proofs.YtagfplcafeblbaaW.PrintWords
theorem info_96 : (Try.prog.info? 96).map (·.size) = some 64 := by kernel_rfl
theorem u32s_size (l : List Nat) : (u32s l).size = l.length := by simp [u32s]
theorem u32s_one (l : List Nat) : (u32s l).all (·.oneCell') = true := by
  unfold u32s
  rw [List.all_toArray, List.all_map]
  exact List.all_eq_true.2 (fun x _ => rfl)
section
variable {P : Program} {ops : Array Oper} {rest : List Oper} {o : Oper} {a : Act} {w : World} {Q : Exit → Act → World → Prop}
theorem wpList_build {t : TypeId} {es} (v : Value) (hgd : o.guard = none) (_ho : o.op = .build t es) (hrun : (execOp a.eval o).run P w = .ok (.value v) w) (h : wpList P ops Q rest (a.put o.dst v) w) : wpList P ops Q (o :: rest) a w := by
  refine wpList_plain hgd fun K hK => ?_
  unfold Oper.wp
  rw [hrun]
  exact hK _ _ h
theorem wpList_st {t : TypeId} {p x : Operand} (w1 : World) (hgd : o.guard = none) (_ho : o.op = .store t p x) (hN : o.dst = none) (hrun : (execOp a.eval o).run P w = .ok .skip w1) (h : wpList P ops Q rest a w1) : wpList P ops Q (o :: rest) a w := by
  refine wpList_plain hgd fun K hK => ?_
  unfold Oper.wp
  rw [hrun]
  show K (a.put o.dst undef) w1
  rw [hN]
  exact hK _ _ h
theorem wpList_st_new {t : TypeId} {p x : Operand} (c c' : Array Value) (hgd : o.guard = none) (ho : o.op = .store t p x) (hN : o.dst = none) (hp : a.eval p = .pointer (some ⟨w.heap.size, 0, none⟩)) (hx : a.eval x = .agg c')
    (hi : (P.info? t).map (·.size) = some c'.size) (hs : c.size = c'.size) (h1 : c'.all (·.oneCell') = true) (h : wpList P ops Q rest a (w.alloc (.cells c' t))) : wpList P ops Q (o :: rest) a (w.alloc (.cells c t)) := by
  refine wpList_st _ hgd ho hN ?_ h
  have := run_storeAt_new (P := P) w t c c' hi hs h1
  simp only [execOp, ho, hp, hx, Sem.run_bind, this, Result.andThen]
  rfl
end
set_option maxRecDepth 100000 in
set_option maxHeartbeats 1600000 in
theorem constants_any (w : World) : Calls Try.prog 53 #[] w fun e w' => e = .returned (.agg (u32s kN)) ∧ Below w.heap.size w w' := by
  go_enter Try.func53, Try.ntmps53
  go_wp2_with (refine wpList_build (.agg (u32s kN)) rfl rfl (by kernel_rfl) ?_; refine wpList_st_new _ (u32s kN) rfl rfl rfl rfl rfl (by rw [u32s_size]; exact info_96) (by rw [u32s_size]; rfl) (u32s_one _) ?_)
  have hl := run_loadVar_new (P := Try.prog) w 96 (u32s kN) 64 33 Try.underlying96 (by rw [u32s_size]; exact info_96)
  exact bodyPost_ret (v := .agg (u32s kN)) (by simp [results, Try.results53, hl, Act.put, asAddr]) rfl ⟨rfl, (Below.refl _ _).alloc (Nat.le_refl _) _⟩
end Go.Proofs.Ytagfplcafeblbaa.H
