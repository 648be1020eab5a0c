/-
  Objects in memory that are known whole: loaded and stored at once.
-/
import Derived.Test.YtbcononfgpfdbaaNq
namespace Go.Proofs.Ytbcononfgpfdbaa.N
open Go.RowKit Go.Proofs.Ytbcononfgpfdbaa.L Go.Proofs.YtbcononfgpfdbaaW.PrintWords

section
variable {P : Program} {w : World} {ops : Array Oper} {rest : List Oper} {o : Oper} {a : Act} {Q : Exit → Act → World → Prop}
/-- a whole object stored into one that is known whole -/
theorem store_obj {t : TypeId} {p x : Operand} (g : Nat) (L cs : Array Value) (hgd : o.guard = none) (ho : o.op = .store t p x) (hN : o.dst = none) (hp : a.eval p = .pointer (some ⟨g, 0, none⟩)) (hx : a.eval x = .agg cs)
    (hg : w.heap[g]? = some (.cells L t (0, 0))) (hi : (P.info? t).map (·.size) = some cs.size) (hs : L.size = cs.size) (h1 : cs.all (·.oneCell') = true)
    (h : ∀ w', w'.heap[g]? = some (.cells cs t (0, 0)) → w.grownBy w' (some g) → wpList P ops Q rest a w') : wpList P ops Q (o :: rest) a w := by
  have hr := run_storeVar_row (P := P) w g t t L cs hg hi hs h1
  refine st_run (w.setRow g cs) hgd ho hN ?_ (h _ (setRow_heap w g _ _ t _ hg) (grown_setRow w g _))
  simp only [execOp, ho, hp, hx, Instr.storeAt, Instr.sureAddr, Sem.run_bind, Sem.run_pure, hr, Result.andThen]
/-- a whole object, loaded -/
theorem load_obj {t : TypeId} {p : Operand} (g : Nat) (L : Array Value) (hgd : o.guard = none) (ho : o.op = .load t p) (hp : a.eval p = .pointer (some ⟨g, 0, none⟩))
    (hr : (loadVar t ⟨g, 0, none⟩).run P w = .ok (.agg L) w)
    (h : wpList P ops Q rest (a.put o.dst (.agg L)) w) : wpList P ops Q (o :: rest) a w := by
  refine wpList_plain hgd fun K hK => ?_
  unfold Oper.wp
  have he : (execOp a.eval o).run P w = .ok (.value (.agg L)) w := by
    simp only [execOp, ho, hp, Instr.loadAt, Instr.sureAddr, Sem.run_bind, Sem.run_pure, hr, Result.andThen]
  rw [he]
  exact hK _ _ h
theorem load_objG {t : TypeId} {p : Operand} (g : Nat) (L : Array Value) (hw : Region.wanted o (yielded ops a.tmps) = true) (ho : o.op = .load t p) (hp : a.eval p = .pointer (some ⟨g, 0, none⟩))
    (hr : (loadVar t ⟨g, 0, none⟩).run P w = .ok (.agg L) w)
    (h : wpList P ops Q rest (a.put o.dst (.agg L)) w) : wpList P ops Q (o :: rest) a w := by
  simp only [wpList]
  rw [if_pos hw]
  refine .inl ?_
  unfold Oper.wp
  have he : (execOp a.eval o).run P w = .ok (.value (.agg L)) w := by
    simp only [execOp, ho, hp, Instr.loadAt, Instr.sureAddr, Sem.run_bind, Sem.run_pure, hr, Result.andThen]
  rw [he]
  exact h
end
end Go.Proofs.Ytbcononfgpfdbaa.N
