/-
  vint: append(append([]Field{}, l...), f), in whatever order its parts are made.
-/
import Derived.Test.YtigbmbmngkmdlaaFi
import Derived.Test.YtigbmbmngkmdlaaQd
namespace Go.Proofs.Ytigbmbmngkmdlaa.V
open Go.RowKit Go.Proofs.Ytigbmbmngkmdlaa.L Go.Proofs.YtigbmbmngkmdlaaW.PrintWords
open Go.Proofs.Ytigbmbmngkmdlaa.Q (wpTr Tr pick picks EvQ Gr Goes ev_keep ev_app put_comm put_size put_same put_free free)

abbrev tF : TypeId := 90
abbrev tFs : TypeId := 88
section
variable {ops : Array Oper} {Q : Exit → Act → World → Prop} {B : Nat} {W : World} {a : Act} {o : Oper} {K : Nat → Option Nat → Act → World → Prop}
theorem run_blank : (Instr.buildSlice tFs 0 #[]).run Try.prog W = .ok (.slice (some ⟨W.heap.size, 0, none⟩) 0 0) (W.alloc (.cells #[] tF)) := by
  obtain ⟨i0, hi, hzz⟩ := Option.map_eq_some_iff.1 info_F
  simp only [Prod.mk.injEq] at hzz
  obtain ⟨hz0, hz1, hz2⟩ := hzz
  simp [Instr.buildSlice, run_underlying Try.underlying88, sizeOf, typeInfo, hi, hz1, newRow, Instr.fill, show Array.range 0 = #[] from by decide]
theorem run_one (c0 c1 : Value) : (Instr.buildSlice tFs 1 #[(0, .agg #[c0, c1])]).run Try.prog W = .ok (.slice (some ⟨W.heap.size, 0, none⟩) 1 1) (W.alloc (.cells #[c0, c1] tF)) := by
  obtain ⟨i0, hi, hzz⟩ := Option.map_eq_some_iff.1 info_F
  simp only [Prod.mk.injEq] at hzz
  obtain ⟨hz0, hz1, hz2⟩ := hzz
  simp [Instr.buildSlice, run_underlying Try.underlying88, sizeOf, typeInfo, zeroValue, hi, hz0, hz1, newRow, Instr.fill, Value.cells, show Array.range 2 = #[0, 1] from by decide]
theorem ev_blank {d : Tmp} (hgd : o.guard = none) (ho : o.op = .buildSlice tFs 0 #[]) (hd : o.dst = some d) (hB : B ≤ W.heap.size)
    (h : K B none (a.put (some d) (.slice (some ⟨W.heap.size, 0, none⟩) 0 0)) (W.alloc (.cells #[] tF))) : wpList Try.prog ops (EvQ (Gr B none W) (Goes K B none) Q) [o] a W := by
  refine wpList_plain hgd fun Kn hK => ?_
  unfold Oper.wp
  have he : (execOp a.eval o).run Try.prog W = .ok (.value (.slice (some ⟨W.heap.size, 0, none⟩) 0 0)) (W.alloc (.cells #[] tF)) := by
    simp only [execOp, ho]
    simp only [List.map_toArray, List.map_nil, Sem.run_bind, run_blank, Result.andThen_ok]
    rfl
  rw [he]
  show Kn (a.put o.dst _) _
  rw [hd]
  exact hK _ _ (ev_keep ((Below.refl _ _).alloc (Nat.le_refl _) _) hB h)
theorem ev_one {d : Tmp} (x : Operand) (c0 c1 : Value) (hgd : o.guard = none) (ho : o.op = .buildSlice tFs 1 #[(0, x)]) (hd : o.dst = some d) (hx : a.eval x = .agg #[c0, c1]) (hB : B ≤ W.heap.size)
    (h : K B none (a.put (some d) (.slice (some ⟨W.heap.size, 0, none⟩) 1 1)) (W.alloc (.cells #[c0, c1] tF))) : wpList Try.prog ops (EvQ (Gr B none W) (Goes K B none) Q) [o] a W := by
  refine wpList_plain hgd fun Kn hK => ?_
  unfold Oper.wp
  have he : (execOp a.eval o).run Try.prog W = .ok (.value (.slice (some ⟨W.heap.size, 0, none⟩) 1 1)) (W.alloc (.cells #[c0, c1] tF)) := by
    simp only [execOp, ho]
    simp only [List.map_toArray, List.map_cons, List.map_nil, hx, Sem.run_bind, run_one, Result.andThen_ok]
    rfl
  rw [he]
  show Kn (a.put o.dst _) _
  rw [hd]
  exact hK _ _ (ev_keep ((Below.refl _ _).alloc (Nat.le_refl _) _) hB h)
theorem ev_appF {w0 : World} {d : Tmp} (s x : Operand) (hgd : o.guard = none) (ho : o.op = .call { callee := .builtin .append, args := #[s, x], argTypes := #[tFs, tFs] }) (hd : o.dst = some d)
    (v : Value) (xs ys : List Fld) (A : Option Addr) (m c : Nat) (hs : a.eval s = v) (hx : a.eval x = .slice A m c)
    (HO : (kX w0).R tF W B (fun _ => True) v xs) (HR : (kX w0).C W A m ys) (hB : B ≤ W.heap.size) (hl : (xs.length + m) * 32 ≤ 140737488355328)
    (h : ∀ v1 w1, (kX w0).R tF w1 B (fun _ => True) v1 (xs ++ ys) → Below B W w1 → W.grownBy w1 v.ownBlock → K B none (a.put (some d) v1) w1) : wpList Try.prog ops (EvQ (Gr B none W) (Goes K B none) Q) [o] a W := by
  refine appF (w0 := w0) B s x hgd ho v xs ys A m c hs hx HO HR hB hl ?_
  intro v1 w1 h1 h2 h3
  rw [hd]
  exact ev_app ⟨h2.os, h2.tape, h2.output, h2.size, fun i hi _ => h2.block i hi⟩ (Nat.le_refl _) (Go.Proofs.Ytigbmbmngkmdlaa.Q.NewRow.none_ _ _) (h v1 w1 h1 h2 h3)
end
theorem kX_E (w0 : World) : (kX w0).E = [] := rfl

/-- append(append([]Field{}, l...), f) -/
theorem finds_tr {l : List Oper} {Q : Exit → Act → World → Prop} {B : Nat} {W : World} {a : Act} {T : Tr} {k0 k2 k4 k5 : Nat} (w0 : World) (d0 d2 d4 d5 : Tmp) (x4 xl : Operand) (lf : List Fld) (t : Int) (d : List Int) (Ad : Option Addr) (cd : Nat) (Al : Option Addr) (cl : Nat)
    (o0 : (pick l k0).guard = none ∧ (pick l k0).op = .buildSlice tFs 0 #[] ∧ (pick l k0).dst = some d0) (o2 : (pick l k2).guard = none ∧ (pick l k2).op = .call { callee := .builtin .append, args := #[.tmp d0, xl], argTypes := #[tFs, tFs] } ∧ (pick l k2).dst = some d2)
    (o4 : (pick l k4).guard = none ∧ (pick l k4).op = .buildSlice tFs 1 #[(0, x4)] ∧ (pick l k4).dst = some d4) (o5 : (pick l k5).guard = none ∧ (pick l k5).op = .call { callee := .builtin .append, args := #[.tmp d2, .tmp d4], argTypes := #[tFs, tFs] } ∧ (pick l k5).dst = some d5)
    (hds : (d0 != d2 && d0 != d4 && d2 != d4 && d2 != d5 && d4 != d5) = true) (hsz : d0 < a.tmps.size ∧ d2 < a.tmps.size ∧ d4 < a.tmps.size)
    (hfr : (free xl d0 && free xl d4 && free x4 d0 && free x4 d2) = true) (hxl : a.eval xl = .slice Al lf.length cl) (hx4 : a.eval x4 = .agg #[.int .u8 t, .slice Ad d.length cd])
    (hC : (kX w0).C W Al lf.length lf) (hAl : 0 < lf.length → ∀ ad, Al = some ad → ad.block < B) (hD : (Kd.int .u8).C w0 Ad d.length d) (hcd : d.length ≤ cd) (hB : B ≤ W.heap.size) (hl : (lf.length + 1) * 32 ≤ 140737488355328)
    (h : ∀ (u0 u2 u4 v5 : Value) (w' : World), (kX w0).R tF w' B (fun _ => True) v5 (lf ++ [(t, d)]) → Below B W w' → wpTr Try.prog l Q T B none ((((a.put (some d0) u0).put (some d2) u2).put (some d4) u4).put (some d5) v5) w') :
    wpTr Try.prog l Q (.two [] k0 (.two [] k2 (.ev [] k4 (.ev [] k5 T)) k4 (.ev [] k2 (.ev [] k5 T))) k4 (.ev [] k0 (.ev [] k2 (.ev [] k5 T)))) B none a W := by
  obtain ⟨g0, p0, q0⟩ := o0
  obtain ⟨g2, p2, q2⟩ := o2
  obtain ⟨g4, p4, q4⟩ := o4
  obtain ⟨g5, p5, q5⟩ := o5
  simp only [Bool.and_eq_true, bne_iff_ne, ne_eq] at hds
  obtain ⟨⟨⟨⟨n02, n04⟩, n24⟩, n25⟩, n45⟩ := hds
  simp only [Bool.and_eq_true] at hfr
  obtain ⟨⟨⟨f1, f2⟩, f3⟩, f4⟩ := hfr
  obtain ⟨z0, z2, z4⟩ := hsz
  have move : ∀ {w w1 : World}, (kX w0).C w Al lf.length lf → Below B w w1 → (kX w0).C w1 Al lf.length lf := fun h1 hb => by
    rcases Nat.eq_zero_or_pos lf.length with h0 | h0
    · exact ⟨h1.1, h1.2.1, fun h => by omega⟩
    · exact CX_move h1 (fun ad ha => hb.block _ (hAl h0 ad ha))
  have lit : ∀ w : World, (kX w0).C (w.alloc (.cells #[.int .u8 t, .slice Ad d.length cd] tF)) (some ⟨w.heap.size, 0, none⟩) 1 [(t, d)] := fun w =>
    C_one w0 w tF (t, d) [.int .u8 t, .slice Ad d.length cd] ⟨[_], [_], rfl, rfl, ⟨_, _, rfl, hcd, hD⟩⟩
  have al : ∀ (w : World) (ob : Obj), Below w.heap.size w (w.alloc ob) := fun w ob => (Below.refl _ _).alloc (Nat.le_refl _) ob
  have hl0 : (([] : List Fld).length + lf.length) * 32 ≤ 140737488355328 := by simp; omega
  have hl1 : (([] ++ lf : List Fld).length + 1) * 32 ≤ 140737488355328 := by simpa using hl
  refine ⟨?_, ?_⟩
  · refine ev_blank g0 p0 q0 hB ?_
    have R0 := R_blank (kX w0) tF W B hB
    have b0 := al W (.cells #[] tF)
    have C0 := move hC (b0.mono hB)
    have bb0 := b0.mono hB
    have hB0 : B ≤ (W.alloc (.cells #[] tF)).heap.size := Nat.le_trans hB b0.size
    have hbs : W.heap.size < (W.alloc (.cells #[] tF)).heap.size := by simp
    generalize W.alloc (.cells #[] tF) = W0 at R0 b0 C0 bb0 hB0 hbs ⊢
    generalize W.heap.size = n0 at R0 hbs b0 ⊢
    refine ⟨?_, ?_⟩
    · -- l, then f
      refine ev_appF (w0 := w0) (.tmp d0) xl g2 p2 q2 (.slice (some ⟨n0, 0, none⟩) 0 0) [] lf Al lf.length cl (put_same a z0 _) ((put_free a f1 _).trans hxl) R0 C0 hB0 hl0 ?_
      intro v2 W2 R2 bb2 _
      have hB2 := Nat.le_trans hB0 bb2.size
      refine ev_one x4 _ _ g4 p4 q4 ((put_free _ f4 _).trans ((put_free _ f3 _).trans hx4)) hB2 ?_
      have L4 := lit W2
      have b4 := al W2 (.cells #[.int .u8 t, .slice Ad d.length cd] tF)
      have R4 := Kd.R_below R2 b4
      have bb4 := bb2.trans (b4.mono hB2)
      have hB4 : B ≤ (W2.alloc (.cells #[.int .u8 t, .slice Ad d.length cd] tF)).heap.size := Nat.le_trans hB2 b4.size
      generalize W2.alloc (.cells #[.int .u8 t, .slice Ad d.length cd] tF) = W4 at L4 b4 R4 bb4 hB4 ⊢
      generalize W2.heap.size = n4 at L4 ⊢
      refine ev_appF (w0 := w0) (.tmp d2) (.tmp d4) g5 p5 q5 v2 ([] ++ lf) [(t, d)] (some ⟨n4, 0, none⟩) 1 1 ((put_free _ (by simpa [free] using n24) _).trans (put_same _ (by rw [put_size]; exact z2) _)) (put_same _ (by rw [put_size, put_size]; exact z4) _) R4 L4 hB4 hl1 ?_
      intro v5 W5 R5 bb5 _
      exact h _ _ _ v5 W5 R5 (bb0.trans (bb4.trans bb5))
    · -- f is made before l is appended
      refine ev_one x4 _ _ g4 p4 q4 ((put_free _ f3 _).trans hx4) hB0 ?_
      have L4 := lit W0
      have b4 := al W0 (.cells #[.int .u8 t, .slice Ad d.length cd] tF)
      have R4 := Kd.R_below R0 b4
      have C4 := move C0 (b4.mono hB0)
      have bb4 := bb0.trans (b4.mono hB0)
      have hB4 : B ≤ (W0.alloc (.cells #[.int .u8 t, .slice Ad d.length cd] tF)).heap.size := Nat.le_trans hB0 b4.size
      have hlt4 : W0.heap.size < (W0.alloc (.cells #[.int .u8 t, .slice Ad d.length cd] tF)).heap.size := by simp
      generalize W0.alloc (.cells #[.int .u8 t, .slice Ad d.length cd] tF) = W4 at L4 b4 R4 C4 bb4 hB4 hlt4 ⊢
      generalize W0.heap.size = n4 at L4 hlt4 hbs ⊢
      refine ev_appF (w0 := w0) (.tmp d0) xl g2 p2 q2 (.slice (some ⟨n0, 0, none⟩) 0 0) [] lf Al lf.length cl ((put_free _ (by simpa [free] using n04) _).trans (put_same a z0 _)) ((put_free _ f2 _).trans ((put_free a f1 _).trans hxl)) R4 C4 hB4 hl0 ?_
      intro v2 W2 R2 bb2 hg2
      have L2 : (kX w0).C W2 (some ⟨n4, 0, none⟩) 1 [(t, d)] := CX_move L4 (fun ad ha => hg2.block _ (by injection ha with ha; rw [← ha]; exact hlt4) (by injection ha with ha; rw [← ha]; intro e; injection e with e; have : n4 = n0 := e; omega))
      refine ev_appF (w0 := w0) (.tmp d2) (.tmp d4) g5 p5 q5 v2 ([] ++ lf) [(t, d)] (some ⟨n4, 0, none⟩) 1 1 (put_same _ (by rw [put_size, put_size]; exact z2) _) ((put_free _ (by simpa [free] using Ne.symm n24) _).trans (put_same _ (by rw [put_size]; exact z4) _)) R2 L2 (Nat.le_trans hB4 bb2.size) hl1 ?_
      intro v5 W5 R5 bb5 _
      have := h (.slice (some ⟨n0, 0, none⟩) 0 0) v2 (.slice (some ⟨n4, 0, none⟩) 1 1) v5 W5 R5 (bb4.trans (bb2.trans bb5))
      rwa [put_comm (a.put (some d0) _) n24] at this
  · -- f is made first
    refine ev_one x4 _ _ g4 p4 q4 hx4 hB ?_
    have L4 := lit W
    have b4 := al W (.cells #[.int .u8 t, .slice Ad d.length cd] tF)
    have C4 := move hC (b4.mono hB)
    have bb4 := b4.mono hB
    have hB4 : B ≤ (W.alloc (.cells #[.int .u8 t, .slice Ad d.length cd] tF)).heap.size := Nat.le_trans hB b4.size
    have hlt4 : W.heap.size < (W.alloc (.cells #[.int .u8 t, .slice Ad d.length cd] tF)).heap.size := by simp
    generalize W.alloc (.cells #[.int .u8 t, .slice Ad d.length cd] tF) = W4 at L4 b4 C4 bb4 hB4 hlt4 ⊢
    generalize W.heap.size = n4 at L4 hlt4 ⊢
    refine ev_blank g0 p0 q0 hB4 ?_
    have R0 := R_blank (kX w0) tF W4 B hB4
    have b0 := al W4 (.cells #[] tF)
    have C0 := move C4 (b0.mono hB4)
    have L0 := Kd.C_below L4 b0
    have bb0 := bb4.trans (b0.mono hB4)
    have hB0 : B ≤ (W4.alloc (.cells #[] tF)).heap.size := Nat.le_trans hB4 b0.size
    have hbs : W4.heap.size < (W4.alloc (.cells #[] tF)).heap.size := by simp
    generalize W4.alloc (.cells #[] tF) = W0 at R0 b0 C0 L0 bb0 hB0 hbs ⊢
    generalize W4.heap.size = n0 at R0 hbs hlt4 b0 ⊢
    refine ev_appF (w0 := w0) (.tmp d0) xl g2 p2 q2 (.slice (some ⟨n0, 0, none⟩) 0 0) [] lf Al lf.length cl (put_same _ (by rw [put_size]; exact z0) _) ((put_free _ f1 _).trans ((put_free a f2 _).trans hxl)) R0 C0 hB0 hl0 ?_
    intro v2 W2 R2 bb2 hg2
    have L2 : (kX w0).C W2 (some ⟨n4, 0, none⟩) 1 [(t, d)] := CX_move L0 (fun ad ha => hg2.block _ (by injection ha with ha; rw [← ha]; show n4 < _; omega) (by injection ha with ha; rw [← ha]; intro e; injection e with e; have : n4 = n0 := e; omega))
    refine ev_appF (w0 := w0) (.tmp d2) (.tmp d4) g5 p5 q5 v2 ([] ++ lf) [(t, d)] (some ⟨n4, 0, none⟩) 1 1 (put_same _ (by rw [put_size, put_size]; exact z2) _) ((put_free _ (by simpa [free] using Ne.symm n24) _).trans ((put_free _ (by simpa [free] using Ne.symm n04) _).trans (put_same a z4 _))) R2 L2 (Nat.le_trans hB0 bb2.size) hl1 ?_
    intro v5 W5 R5 bb5 _
    have := h (.slice (some ⟨n0, 0, none⟩) 0 0) v2 (.slice (some ⟨n4, 0, none⟩) 1 1) v5 W5 R5 (bb0.trans (bb2.trans bb5))
    rw [put_comm (a.put (some d0) _) n24, put_comm a n04] at this
    exact this
end Go.Proofs.Ytigbmbmngkmdlaa.V
