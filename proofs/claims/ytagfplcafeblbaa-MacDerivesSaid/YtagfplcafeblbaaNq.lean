/-
  Arrays in memory: copy, whole stores, and worlds under a name.
-/
import Derived.Test.YtagfplcafeblbaaN
import Derived.Test.YtagfplcafeblbaaQd
import Derived.Laws.CopyOwn
import Derived.Deep.QuietTactic
import Derived.Deep.WholeRow
namespace Go.Proofs.Ytagfplcafeblbaa.N
open Go.RowKit Go.Proofs.Ytagfplcafeblbaa.L Go.Proofs.YtagfplcafeblbaaW.PrintWords

theorem wp_at {P : Program} {c : Code} {Q : Exit → Act → World → Prop} {a : Act} {W : World} (h : ∀ W', W' = W → c.wp P Q a W') : c.wp P Q a W := h W rfl
theorem calls_at {P : Program} {f : Nat} {args : Array Value} {W : World} {Q : Ending → World → Prop} (h : ∀ W', W' = W → Calls P f args W' Q) : Calls P f args W Q := h W rfl
theorem exit_at {R : Act → World → Prop} {a : Act} {W : World} (h : ∀ W', W' = W → R a W') : R a W := h W rfl
theorem AB.grown {k : IntKind} {t : TypeId} {b : Nat} {g : Option Nat} {l : List Nat} {w w1 : World} (h : AB k t b l w) (hg : w.grownBy w1 g) (hne : some b ≠ g) : AB k t b l w1 := (hg.block b h.lt hne).trans h
theorem AB.drew {k : IntKind} {t : TypeId} {b : Nat} {l : List Nat} {w : World} (h : AB k t b l w) : AB k t b l w.drew := h
theorem AB.drewN {k : IntKind} {t : TypeId} {b : Nat} {l : List Nat} {w : World} (h : AB k t b l w) (n : Nat) : AB k t b l (w.drewN n) := by
  unfold AB at *
  simpa using h
theorem grown_set (w : World) (b i : Nat) (v : Value) : w.grownBy (w.setCell ⟨b, i, none⟩ v) (some b) := ⟨rfl, rfl, rfl, by simp [World.setCell], fun k _ hne => Below.heap_setCell _ _ _ _ (fun e => hne (by rw [e]))⟩
theorem grown_drew (w : World) (row : Option Nat) : w.grownBy w.drew row := ⟨rfl, rfl, rfl, Nat.le_refl _, fun _ _ _ => rfl⟩
theorem grown_drewN (w : World) (n : Nat) (row : Option Nat) : w.grownBy (w.drewN n) row := ⟨rfl, rfl, rfl, Nat.le_refl _, fun _ _ _ => rfl⟩
theorem grown_below {w w1 : World} (h : Below w.heap.size w w1) (row : Option Nat) : w.grownBy w1 row := ⟨h.os, h.tape, h.output, h.size, fun k hk _ => h.block k hk⟩
theorem below_grown {w0 w w1 : World} {n b : Nat} (h : Below n w0 w) (hn : n ≤ w.heap.size) (hg : w.grownBy w1 (some b)) (hb : n ≤ b) : Below n w0 w1 :=
  ⟨hg.os.trans h.os, hg.tape.trans h.tape, hg.output.trans h.output, Nat.le_trans h.size hg.size, fun k hk => (hg.block k (by omega) (fun e => by injection e with e; omega)).trans (h.block k hk)⟩
theorem grown_setRow (w : World) (g : Nat) (cs : Array Value) : w.grownBy (w.setRow g cs) (some g) := ⟨rfl, rfl, rfl, by simp [World.setRow], fun k _ hne => setRow_other w g k cs (fun e => hne (by rw [e]))⟩
theorem splice_arr {k : IntKind} (L : List Nat) (off : Nat) (cs : List Nat) : (((arr k L).toList.take off ++ ((cs.map (fun x : Nat => Value.int k (x : Int))) ++ (arr k L).toList.drop (off + (cs.map (fun x : Nat => Value.int k (x : Int))).length))).toArray) = arr k (splice L off cs) := by
  simp [arr, splice, List.map_take, List.map_drop]
theorem grown_below0 {m : Nat} (w : World) (n : Nat) : Below m w (w.drewN n) := ⟨rfl, rfl, rfl, Nat.le_refl _, fun _ _ => rfl⟩
theorem gw {w : World} {b o : Nat} {v : Value} (hb : b < w.heap.size) (h : w.cell? ⟨b, o, none⟩ = some v) : ∀ m : Q.GW w.drew w.heap.size none, m.w.cell? ⟨b, o, none⟩ = some v := fun m => ((Q.GW.below (W := w.drew) m).cell (p := ⟨b, o, none⟩) hb).trans h
/-- a quiet call in a second quiet region -/
theorem quiet_add_same {P : Program} {f : FuncId} {args : Array Value} {w : World} {a n : Nat} {v : Value}
    (h : Calls P f args (w.drewN (a + n)) fun e w' => e = .returned v ∧ w' = w.drewN (a + n)) :
    Calls P f args (w.drewN (a + n)) fun e w'' => e = .returned v ∧ ∃ m, w'' = w.drewN (a + m) :=
  h.mono fun _ _ ⟨he, hm⟩ => ⟨he, n, hm⟩
section
variable {P : Program} {w : World} {ops : Array Oper} {rest : List Oper} {o : Oper} {a : Act} {Q : Exit → Act → World → Prop}
/-- copy into an array that is known whole -/
theorem copy_ab (hgd : o.guard = none) (d s : Operand) (dT sT : TypeId) (ho : o.op = .call { callee := .builtin .copy, args := #[d, s], argTypes := #[dT, sT] }) (elem : TypeId) (hu : P.underlying dT = some (.slice elem)) (hsz : (P.info? elem).map (·.size) = some 1)
    (k : IntKind) (t : TypeId) (dp sp : Option Addr) (g off dLen dCap sLen sCap : Nat) (hd : a.eval d = .slice dp dLen dCap) (hs : a.eval s = .slice sp sLen sCap) (L : List Nat) (hg : AB k t g L w) (cs : List Nat) (hn : cs.length = Nat.min sLen dLen)
    (hpos : 0 < cs.length → dp = some ⟨g, off, none⟩ ∧ ∃ ad, sp = some ad ∧ ∀ j, j < cs.length → w.cell? (ad.add j) = some (.int k (cs.getD j 0 : Nat)))
    (hfit : off + cs.length ≤ L.length)
    (h : ∀ w', AB k t g (splice L off cs) w' → w.grownBy w' (some g) → wpList P ops Q rest (a.put o.dst (goInt cs.length)) w') : wpList P ops Q (o :: rest) a w := by
  by_cases h0 : cs.length = 0
  · obtain rfl : cs = [] := List.eq_nil_of_length_eq_zero h0
    refine wpList_copy_nothing hgd d s dT sT ho elem hu hsz dp sp dLen dCap sLen sCap hd hs (by simpa using hn.symm) ?_
    exact h w (by simpa [splice] using hg) (World.grownBy.refl _ _)
  · obtain ⟨rfl, ad, rfl, hsrc⟩ := hpos (by omega)
    refine wpList_copy_own hgd d s dT sT ho elem hu hsz g off dLen dCap ad sLen sCap hd hs (arr k L) t hg (cs.map (fun x : Nat => Value.int k (x : Int))) (by simpa using hn) (fun j v hv => ?_) (by rw [arr_size]; simpa using hfit) (fun v hv => ?_) ?_
    · rw [List.getElem?_map] at hv
      by_cases hj : j < cs.length
      · rw [List.getElem?_eq_getElem hj] at hv
        have := hsrc j hj
        rw [List.getD_eq_getElem?_getD, List.getElem?_eq_getElem hj] at this
        rw [this]
        exact hv
      · rw [List.getElem?_eq_none (by omega)] at hv
        cases hv
    · obtain ⟨x, _, rfl⟩ := List.mem_map.1 hv
      rfl
    · rw [splice_arr, List.length_map]
      exact h _ (setRow_heap w g _ _ t _ hg) (grown_setRow w g _)
theorem st_run {t : TypeId} {p x : Operand} (w1 : World) (hgd : o.guard = none) (_ho : o.op = .store t p x) (hN : o.dst = none) (hrun : (execOp a.eval o).run P w = .ok .skip w1) (h : wpList P ops Q rest a w1) : wpList P ops Q (o :: rest) a w := by
  refine wpList_plain hgd fun K hK => ?_
  unfold Oper.wp
  rw [hrun]
  show K (a.put o.dst undef) w1
  rw [hN]
  exact hK _ _ h
/-- a whole array stored into one that is known whole -/
theorem store_ab {t : TypeId} {p x : Operand} (k : IntKind) (g : Nat) (L cs : List Nat) (hgd : o.guard = none) (ho : o.op = .store t p x) (hN : o.dst = none) (hp : a.eval p = .pointer (some ⟨g, 0, none⟩)) (hx : a.eval x = .agg (arr k cs))
    (hg : AB k t g L w) (hi : (P.info? t).map (·.size) = some cs.length) (hs : L.length = cs.length)
    (h : ∀ w', AB k t g cs w' → w.grownBy w' (some g) → wpList P ops Q rest a w') : wpList P ops Q (o :: rest) a w := by
  have hr := run_storeVar_row (P := P) w g t t (arr k L) (arr k cs) hg (by rw [arr_size]; exact hi) (by rw [arr_size, arr_size]; exact hs) (arr_one k cs)
  refine st_run (w.setRow g (arr k cs)) hgd ho hN ?_ (h _ (setRow_heap w g _ _ t _ hg) (grown_setRow w g _))
  simp only [execOp, ho, hp, hx, Instr.storeAt, Instr.sureAddr, Sem.run_bind, Sem.run_pure, hr, Result.andThen]
/-- a whole array, loaded -/
theorem load_ab {t e : TypeId} {n : Nat} {p : Operand} (k : IntKind) (g : Nat) (L : List Nat) (hgd : o.guard = none) (ho : o.op = .load t p) (hp : a.eval p = .pointer (some ⟨g, 0, none⟩))
    (hg : AB k t g L w) (hu : P.underlying t = some (.array n e)) (hi : (P.info? t).map (·.size) = some L.length)
    (h : wpList P ops Q rest (a.put o.dst (.agg (arr k L))) w) : wpList P ops Q (o :: rest) a w := by
  have hr := AB.load (P := P) hg hu hi
  refine wpList_plain hgd fun K hK => ?_
  unfold Oper.wp
  have he : (execOp a.eval o).run P w = .ok (.value (.agg (arr k L))) w := by
    simp only [execOp, ho, hp, Instr.loadAt, Instr.sureAddr, Sem.run_bind, Sem.run_pure, hr, Result.andThen]
  rw [he]
  exact hK _ _ h
/-- a guard that lets through is none -/
theorem unguard (hw : Region.wanted o (yielded ops a.tmps) = true) (h : wpList P ops Q ({ o with guard := none } :: rest) a w) : wpList P ops Q (o :: rest) a w := by
  simp only [wpList] at h ⊢
  rw [if_pos (by simp [Region.wanted])] at h
  rw [if_pos hw]
  exact h
/-- the same, of an operation that has a guard -/
theorem load_abG {t e : TypeId} {n : Nat} {p : Operand} (k : IntKind) (g : Nat) (L : List Nat) (hw : Region.wanted o (yielded ops a.tmps) = true) (ho : o.op = .load t p) (hp : a.eval p = .pointer (some ⟨g, 0, none⟩))
    (hg : AB k t g L w) (hu : P.underlying t = some (.array n e)) (hi : (P.info? t).map (·.size) = some L.length)
    (h : wpList P ops Q rest (a.put o.dst (.agg (arr k L))) w) : wpList P ops Q (o :: rest) a w := by
  have hr := AB.load (P := P) hg hu hi
  simp only [wpList]
  rw [if_pos hw]
  refine .inl ?_
  unfold Oper.wp
  have he : (execOp a.eval o).run P w = .ok (.value (.agg (arr k L))) w := by
    simp only [execOp, ho, hp, Instr.loadAt, Instr.sureAddr, Sem.run_bind, Sem.run_pure, hr, Result.andThen]
  rw [he]
  exact h
end
end Go.Proofs.Ytagfplcafeblbaa.N
