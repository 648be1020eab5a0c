/-
  A region that draws its order and appends a number to each of two rows of one's own: in whatever order.
-/
import Derived.Test.YtagfplcafeblbaaQt
namespace Go.Proofs.Ytagfplcafeblbaa.Q
open Go.RowKit Go.Proofs.Ytagfplcafeblbaa.L Go.Proofs.YtagfplcafeblbaaW.PrintWords

theorem put_comm (a : Act) {d d' : Tmp} (h : d ≠ d') (u u' : Value) : (a.put (some d) u).put (some d') u' = (a.put (some d') u').put (some d) u := by
  simp only [Act.put]
  rw [Array.setIfInBounds_comm _ _ h]
theorem put_size (a : Act) (d : Tmp) (u : Value) : (a.put (some d) u).tmps.size = a.tmps.size := by simp [Act.put]
theorem put_same (a : Act) {d : Tmp} (h : d < a.tmps.size) (u : Value) : (a.put (some d) u).eval (.tmp d) = u := by
  simp [Act.eval, Act.put, Array.getD, h]
def free (s : Operand) (d : Tmp) : Bool := match s with
  | .tmp n => n != d
  | _ => true
theorem put_free (a : Act) {s : Operand} {d : Tmp} (h : free s d = true) (u : Value) : (a.put (some d) u).eval s = a.eval s := by
  cases s with
  | tmp n =>
    have hn : n ≠ d := by simpa [free] using h
    simp only [Act.eval, Act.put, Array.getD_eq_getD_getElem?, Array.getElem?_setIfInBounds]
    rw [if_neg (Ne.symm hn)]
  | _ => rfl

section
variable {P : Program} {ops : Array Oper} {Q : Exit → Act → World → Prop} {B : Nat} {W : World} {a : Act} {o : Oper} {K : Nat → Option Nat → Act → World → Prop}
theorem run_lit1 (t e : TypeId) (k : IntKind) (bytes : Nat) (y : Int) (ht : P.underlying t = some (.slice e)) (hinfo : (P.info? e).map (fun i => (i.zero, i.size, i.bytes)) = some (some (.int k 0), 1, bytes)) :
    (Instr.buildSlice t 1 #[(0, .int k y)]).run P W = .ok (.slice (some ⟨W.heap.size, 0, none⟩) 1 1) (W.alloc (.cells #[.int k y] e)) := by
  obtain ⟨i0, hi, hzz⟩ := Option.map_eq_some_iff.1 hinfo
  simp only [Prod.mk.injEq] at hzz
  obtain ⟨hz0, hz1, hz2⟩ := hzz
  simp [Instr.buildSlice, run_underlying ht, sizeOf, typeInfo, zeroValue, hi, hz0, hz1, newRow, Instr.fill, Value.cells, show Array.range 1 = #[0] from by decide]
theorem ev_lit1 {d : Tmp} (t e : TypeId) (k : IntKind) (bytes : Nat) (x : Operand) (y : Int) (hgd : o.guard = none) (ho : o.op = .buildSlice t 1 #[(0, x)]) (hd : o.dst = some d) (ht : P.underlying t = some (.slice e))
    (hinfo : (P.info? e).map (fun i => (i.zero, i.size, i.bytes)) = some (some (.int k 0), 1, bytes)) (hx : a.eval x = .int k y) (hB : B ≤ W.heap.size)
    (h : K B none (a.put (some d) (.slice (some ⟨W.heap.size, 0, none⟩) 1 1)) (W.alloc (.cells #[.int k y] e))) : wpList P ops (EvQ (Gr B none W) (Goes K B none) Q) [o] a W := by
  refine wpList_plain hgd fun Kn hK => ?_
  have hr := run_lit1 (P := P) (W := W) t e k bytes y ht hinfo
  unfold Oper.wp
  have he : (execOp a.eval o).run P W = .ok (.value (.slice (some ⟨W.heap.size, 0, none⟩) 1 1)) (W.alloc (.cells #[.int k y] e)) := by
    simp only [execOp, ho]
    simp only [List.map_toArray, List.map_cons, List.map_nil, hx, Sem.run_bind, hr, Result.andThen_ok]
    rfl
  rw [he]
  show Kn (a.put o.dst _) _
  rw [hd]
  exact hK _ _ (ev_keep ((Below.refl _ _).alloc (Nat.le_refl _) _) hB h)
theorem ev_app1 {d : Tmp} (t e : TypeId) (k : IntKind) (bytes : Nat) (s x : Operand) (v : Value) (xs : List Int) (y : Int) (g : Nat) (hgd : o.guard = none) (ho : o.op = .call { callee := .builtin .append, args := #[s, x], argTypes := #[t, t] }) (hd : o.dst = some d) (ht : P.underlying t = some (.slice e))
    (hinfo : (P.info? e).map (fun i => (i.zero, i.size, i.bytes)) = some (some (.int k 0), 1, bytes)) (hb0 : 0 < bytes) (hs : a.eval s = v) (hx : a.eval x = .slice (some ⟨g, 0, none⟩) 1 1)
    (HO : (Kd.int k).R e W B (fun _ => True) v xs) (hg : W.heap[g]? = some (.cells #[.int k y] e (0, 0))) (hB : B ≤ W.heap.size) (hl : (xs.length + 1) * bytes ≤ 140737488355328)
    (h : ∀ v1 w1, (Kd.int k).R e w1 B (fun _ => True) v1 (xs ++ [y]) → Below B W w1 → W.grownBy w1 v.ownBlock → K B none (a.put (some d) v1) w1) : wpList P ops (EvQ (Gr B none W) (Goes K B none) Q) [o] a W := by
  have hC : (Kd.int k).C W (some ⟨g, 0, none⟩) 1 [y] := by
    have hR := R_of_blk (k := k) (l := [y]) (B := 0) (by simpa using hg) (Nat.zero_le _) (show 1 ≤ maxLen from by decide)
    exact (Kd.R_reads' hR).2.2
  refine appn (w0 := W) k B s x t e bytes hgd ho ht hinfo hb0 v xs [y] (some ⟨g, 0, none⟩) 1 1 hs hx HO hC (Below.refl _ _) hB hl ?_
  intro v1 w1 h1 h2 h3
  rw [hd]
  exact ev_app ⟨h2.os, h2.tape, h2.output, h2.size, fun i hi _ => h2.block i hi⟩ (Nat.le_refl _) (NewRow.none_ _ _) (h v1 w1 h1 h2 h3)
end

/-- two appends, one statement: the order of building and appending is open -/
theorem app2 {P : Program} {l : List Oper} {Q : Exit → Act → World → Prop} {B : Nat} {W : World} {a : Act} {k1 k2 k3 k4 : Nat} {js : List Nat} (d1 d2 d3 d4 : Tmp) (t1 e1 t2 e2 : TypeId) (ka kb : IntKind) (by1 by2 : Nat) (s1 x1 s2 x2 : Operand)
    (v1 v2 : Value) (xs1 xs2 : List Int) (y1 y2 : Int)
    (o1 : (pick l k1).guard = none ∧ (pick l k1).op = .buildSlice t1 1 #[(0, x1)] ∧ (pick l k1).dst = some d1) (o2 : (pick l k2).guard = none ∧ (pick l k2).op = .call { callee := .builtin .append, args := #[s1, .tmp d1], argTypes := #[t1, t1] } ∧ (pick l k2).dst = some d2)
    (o3 : (pick l k3).guard = none ∧ (pick l k3).op = .buildSlice t2 1 #[(0, x2)] ∧ (pick l k3).dst = some d3) (o4 : (pick l k4).guard = none ∧ (pick l k4).op = .call { callee := .builtin .append, args := #[s2, .tmp d3], argTypes := #[t2, t2] } ∧ (pick l k4).dst = some d4)
    (ht1 : P.underlying t1 = some (.slice e1)) (hi1 : (P.info? e1).map (fun i => (i.zero, i.size, i.bytes)) = some (some (.int ka 0), 1, by1)) (hb1 : 0 < by1)
    (ht2 : P.underlying t2 = some (.slice e2)) (hi2 : (P.info? e2).map (fun i => (i.zero, i.size, i.bytes)) = some (some (.int kb 0), 1, by2)) (hb2 : 0 < by2) (hne : e1 ≠ e2)
    (hds : (d1 != d2 && d1 != d3 && d1 != d4 && d2 != d3 && d2 != d4 && d3 != d4) = true) (hsz : d1 < a.tmps.size ∧ d2 < a.tmps.size ∧ d3 < a.tmps.size ∧ d4 < a.tmps.size)
    (hfr : (free s1 d1 && free s1 d3 && free x2 d1 && free x2 d2 && free s2 d1 && free s2 d2 && free s2 d3 && free x1 d3) = true)
    (hs1 : a.eval s1 = v1) (hx1 : a.eval x1 = .int ka y1) (hs2 : a.eval s2 = v2) (hx2 : a.eval x2 = .int kb y2)
    (R1 : (Kd.int ka).R e1 W B (fun _ => True) v1 xs1) (R2 : (Kd.int kb).R e2 W B (fun _ => True) v2 xs2) (hB : B ≤ W.heap.size) (hl1 : (xs1.length + 1) * by1 ≤ 140737488355328) (hl2 : (xs2.length + 1) * by2 ≤ 140737488355328)
    (h : ∀ (u1 u3 : Value) (v1' v2' : Value) (w' : World), (Kd.int ka).R e1 w' B (fun _ => True) v1' (xs1 ++ [y1]) → (Kd.int kb).R e2 w' B (fun _ => True) v2' (xs2 ++ [y2]) → Below B W w' →
      wpQuiet P l.toArray (fun w'' => ∃ n : GW w' B none, w'' = n.w) (fun a' => Q .normal a' w') (picks l js) ((((a.put (some d1) u1).put (some d2) v1').put (some d3) u3).put (some d4) v2')) :
    wpTr P l Q (.two [] k1 (.two [] k2 (.ev [] k3 (.ev [] k4 (.done js))) k3 (.ev [] k2 (.ev [] k4 (.done js)))) k3 (.ev [] k1 (.ev [] k2 (.ev [] k4 (.done js))))) B none a W := by
  obtain ⟨g1, p1, q1⟩ := o1
  obtain ⟨g2, p2, q2⟩ := o2
  obtain ⟨g3, p3, q3⟩ := o3
  obtain ⟨g4, p4, q4⟩ := o4
  simp only [Bool.and_eq_true, bne_iff_ne, ne_eq] at hds
  obtain ⟨⟨⟨⟨⟨n12, n13⟩, n14⟩, n23⟩, n24⟩, n34⟩ := hds
  simp only [Bool.and_eq_true] at hfr
  obtain ⟨⟨⟨⟨⟨⟨⟨f1, f2⟩, f3⟩, f4⟩, f5⟩, f6⟩, f7⟩, f8⟩ := hfr
  obtain ⟨z1, z2, z3, z4⟩ := hsz
  have al : ∀ {w : World} (hb : B ≤ w.heap.size) (ob : Obj), Below w.heap.size w (w.alloc ob) := fun _ ob => (Below.refl _ _).alloc (Nat.le_refl _) ob
  have over1 : ∀ {w w1 : World} {v v' : Value} {xs ys : List Int}, (Kd.int ka).R e1 w B (fun _ => True) v xs → (Kd.int kb).R e2 w B (fun _ => True) v' ys → w.grownBy w1 v'.ownBlock → (Kd.int ka).R e1 w1 B (fun _ => True) v xs :=
    fun h1 h2 hg => Kd.R_over h1 h2 (by intro q hq; simp [show (Kd.int ka).E = [] from rfl] at hq; subst hq; exact hne) hg
  have over2 : ∀ {w w1 : World} {v v' : Value} {xs ys : List Int}, (Kd.int kb).R e2 w B (fun _ => True) v xs → (Kd.int ka).R e1 w B (fun _ => True) v' ys → w.grownBy w1 v'.ownBlock → (Kd.int kb).R e2 w1 B (fun _ => True) v xs :=
    fun h1 h2 hg => Kd.R_over h1 h2 (by intro q hq; simp [show (Kd.int kb).E = [] from rfl] at hq; subst hq; exact Ne.symm hne) hg
  refine ⟨?_, ?_⟩
  · -- the first row's number is built first
    refine ev_lit1 t1 e1 ka by1 x1 y1 g1 p1 q1 ht1 hi1 hx1 hB ?_
    have hnew := heap_alloc_new W (.cells #[.int ka y1] e1)
    have b1 := al hB (.cells #[.int ka y1] e1)
    have hB1 : B ≤ (W.alloc (.cells #[.int ka y1] e1)).heap.size := Nat.le_trans hB b1.size
    have R1' := Kd.R_below R1 b1
    have R2' := Kd.R_below R2 b1
    have bb1 : Below B W (W.alloc (.cells #[.int ka y1] e1)) := b1.mono hB
    generalize W.alloc (.cells #[.int ka y1] e1) = W1 at hnew b1 hB1 R1' R2' bb1 ⊢
    generalize W.heap.size = n1 at hnew ⊢
    refine ⟨?_, ?_⟩
    · -- it is appended, then the second
      refine ev_app1 t1 e1 ka by1 s1 (.tmp d1) v1 xs1 y1 n1 g2 p2 q2 ht1 hi1 hb1 ((put_free a f1 _).trans hs1) (put_same a z1 _) R1' hnew hB1 hl1 ?_
      intro w1 W2 R1'' bb2 hg2
      have R2'' := over2 R2' R1' hg2
      have hB2 := Nat.le_trans hB1 bb2.size
      refine ev_lit1 t2 e2 kb by2 x2 y2 g3 p3 q3 ht2 hi2 ((put_free _ f4 _).trans ((put_free _ f3 _).trans hx2)) hB2 ?_
      have hnew2 := heap_alloc_new W2 (.cells #[.int kb y2] e2)
      have b3 := al hB2 (.cells #[.int kb y2] e2)
      have hB3 : B ≤ (W2.alloc (.cells #[.int kb y2] e2)).heap.size := Nat.le_trans hB2 b3.size
      have R13 := Kd.R_below R1'' b3
      have R23 := Kd.R_below R2'' b3
      have bb3 := bb2.trans (b3.mono hB2)
      generalize W2.alloc (.cells #[.int kb y2] e2) = W3 at hnew2 b3 hB3 R13 R23 bb3 ⊢
      generalize W2.heap.size = n2 at hnew2 ⊢
      refine ev_app1 t2 e2 kb by2 s2 (.tmp d3) v2 xs2 y2 n2 g4 p4 q4 ht2 hi2 hb2 ((put_free _ f7 _).trans ((put_free _ f6 _).trans ((put_free _ f5 _).trans hs2))) (put_same _ (by rw [put_size, put_size]; exact z3) _) R23 hnew2 hB3 hl2 ?_
      intro w2 W4 R24 bb4 hg4
      exact h _ _ w1 w2 W4 (over1 R13 R23 hg4) R24 (bb1.trans (bb3.trans bb4))
    · -- the second row's number is built, then the first is appended
      refine ev_lit1 t2 e2 kb by2 x2 y2 g3 p3 q3 ht2 hi2 ((put_free _ f3 _).trans hx2) hB1 ?_
      have hnew2 := heap_alloc_new W1 (.cells #[.int kb y2] e2)
      have b3 := al hB1 (.cells #[.int kb y2] e2)
      have hB3 : B ≤ (W1.alloc (.cells #[.int kb y2] e2)).heap.size := Nat.le_trans hB1 b3.size
      have hnew1 := blk_below hnew b3
      have R13 := Kd.R_below R1' b3
      have R23 := Kd.R_below R2' b3
      have bb3 := bb1.trans (b3.mono hB1)
      generalize W1.alloc (.cells #[.int kb y2] e2) = W3 at hnew2 b3 hB3 R13 R23 bb3 hnew1 ⊢
      generalize W1.heap.size = n2 at hnew2 ⊢
      refine ev_app1 t1 e1 ka by1 s1 (.tmp d1) v1 xs1 y1 n1 g2 p2 q2 ht1 hi1 hb1 ((put_free _ f2 _).trans ((put_free _ f1 _).trans hs1)) ((put_free _ (by simpa [free] using n13) _).trans (put_same a z1 _)) R13 hnew1 hB3 hl1 ?_
      intro w1 W4 R14 bb4 hg4
      have R24 := over2 R23 R13 hg4
      have hnew4 := blk_grown hnew2 hg4 (Kd.R_ne R13 hnew2 hne)
      refine ev_app1 t2 e2 kb by2 s2 (.tmp d3) v2 xs2 y2 n2 g4 p4 q4 ht2 hi2 hb2 ((put_free _ f6 _).trans ((put_free _ f7 _).trans ((put_free _ f5 _).trans hs2))) ((put_free _ (by simpa [free] using Ne.symm n23) _).trans (put_same _ (by rw [put_size]; exact z3) _)) R24 hnew4 (Nat.le_trans hB3 bb4.size) hl2 ?_
      intro w2 W5 R25 bb5 hg5
      have := h (.slice (some ⟨n1, 0, none⟩) 1 1) (.slice (some ⟨n2, 0, none⟩) 1 1) w1 w2 W5 (over1 R14 R24 hg5) R25 (bb3.trans (bb4.trans bb5))
      rwa [put_comm (a.put (some d1) _) n23] at this
  · -- the second row's number is built first
    refine ev_lit1 t2 e2 kb by2 x2 y2 g3 p3 q3 ht2 hi2 hx2 hB ?_
    have hnew := heap_alloc_new W (.cells #[.int kb y2] e2)
    have b1 := al hB (.cells #[.int kb y2] e2)
    have hB1 : B ≤ (W.alloc (.cells #[.int kb y2] e2)).heap.size := Nat.le_trans hB b1.size
    have R1' := Kd.R_below R1 b1
    have R2' := Kd.R_below R2 b1
    have bb1 : Below B W (W.alloc (.cells #[.int kb y2] e2)) := b1.mono hB
    generalize W.alloc (.cells #[.int kb y2] e2) = W1 at hnew b1 hB1 R1' R2' bb1 ⊢
    generalize W.heap.size = n2 at hnew ⊢
    refine ev_lit1 t1 e1 ka by1 x1 y1 g1 p1 q1 ht1 hi1 ((put_free _ f8 _).trans hx1) hB1 ?_
    have hnew1 := heap_alloc_new W1 (.cells #[.int ka y1] e1)
    have b3 := al hB1 (.cells #[.int ka y1] e1)
    have hB3 : B ≤ (W1.alloc (.cells #[.int ka y1] e1)).heap.size := Nat.le_trans hB1 b3.size
    have hnew2 := blk_below hnew b3
    have R13 := Kd.R_below R1' b3
    have R23 := Kd.R_below R2' b3
    have bb3 := bb1.trans (b3.mono hB1)
    generalize W1.alloc (.cells #[.int ka y1] e1) = W3 at hnew2 b3 hB3 R13 R23 bb3 hnew1 ⊢
    generalize W1.heap.size = n1 at hnew1 ⊢
    refine ev_app1 t1 e1 ka by1 s1 (.tmp d1) v1 xs1 y1 n1 g2 p2 q2 ht1 hi1 hb1 ((put_free _ f1 _).trans ((put_free _ f2 _).trans hs1)) (put_same _ (by rw [put_size]; exact z1) _) R13 hnew1 hB3 hl1 ?_
    intro w1 W4 R14 bb4 hg4
    have R24 := over2 R23 R13 hg4
    have hnew4 := blk_grown hnew2 hg4 (Kd.R_ne R13 hnew2 hne)
    refine ev_app1 t2 e2 kb by2 s2 (.tmp d3) v2 xs2 y2 n2 g4 p4 q4 ht2 hi2 hb2 ((put_free _ f6 _).trans ((put_free _ f5 _).trans ((put_free _ f7 _).trans hs2))) ((put_free _ (by simpa [free] using Ne.symm n23) _).trans ((put_free _ (by simpa [free] using Ne.symm n13) _).trans (put_same a z3 _))) R24 hnew4 (Nat.le_trans hB3 bb4.size) hl2 ?_
    intro w2 W5 R25 bb5 hg5
    have := h (.slice (some ⟨n1, 0, none⟩) 1 1) (.slice (some ⟨n2, 0, none⟩) 1 1) w1 w2 W5 (over1 R14 R24 hg5) R25 (bb3.trans (bb4.trans bb5))
    rw [put_comm (a.put (some d1) _) n23, put_comm a n13] at this
    exact this
/-- the regions' laws, the bound below which nothing is written given freely -/
theorem wp_region_trB {P : Program} {l : List Oper} {Q : Exit → Act → World → Prop} {id : Nat} {a : Act} {w : World} (B : Nat) (row : Option Nat) (t : Tr) (hm : P.follows .mixedOrders = true) (hs : Region.noSelect l.toArray = true)
    (hb : trB .any l t (Array.replicate l.length false) = true) (hn : trN t = some l.length)
    (h : wpTr P l (NoPanic Q) t B row a w.drew) : (Code.region id l.toArray true).wp P Q a w := by
  refine wp_region_noPanic (wp_region_held (S := InG w.drew B row) hm ?_)
  have := tr_sound hs (Q := NoPanic Q) (fun _ _ _ _ _ h => h) t _ hn B row _ a w.drew hb h
  simpa using this
theorem wp_region_segsB {P : Program} {l : List Oper} {Q : Exit → Act → World → Prop} {id : Nat} {a : Act} {w : World} (B : Nat) (row : Option Nat) (segs : List (List Nat × Option Nat)) (hm : P.follows .mixedOrders = true) (hs : Region.noSelect l.toArray = true)
    (hb : segB .any l segs (Array.replicate l.length false) = true) (hn : segN segs = l.length)
    (h : wpSegs P l (NoPanic Q) segs B row a w.drew) : (Code.region id l.toArray true).wp P Q a w := by
  refine wp_region_noPanic (wp_region_held (S := InG w.drew B row) hm ?_)
  have := segs_sound hs (Q := NoPanic Q) (fun _ _ _ _ _ h => h) segs B row _ a w.drew hb h
  rw [hn] at this
  simpa using this
/-- what only reads ahead of it -/
theorem two_pre {P : Program} {l : List Oper} {Q : Exit → Act → World → Prop} {B : Nat} {row : Option Nat} {W : World} {a : Act} {is : List Nat} {k1 k2 : Nat} {u1 u2 : Tr}
    (h : wpQuiet P l.toArray (fun w' => ∃ n : GW W B row, w' = n.w) (fun a' => wpTr P l Q (.two [] k1 u1 k2 u2) B row a' W) (picks l is) a) : wpTr P l Q (.two is k1 u1 k2 u2) B row a W := h
end Go.Proofs.Ytagfplcafeblbaa.Q
