/-
  Two appends in one statement to two rows that are apart, of whatever types.
-/
import Derived.Test.YtagfplcafeblbaaQd
namespace Go.Proofs.Ytagfplcafeblbaa.Q
open Go.RowKit Go.Proofs.Ytagfplcafeblbaa.L Go.Proofs.YtagfplcafeblbaaW.PrintWords

/-- two rows that are of no one block -/
def Ap (v u : Value) : Prop := ∀ k, v.ownBlock = some k → u.ownBlock ≠ some k
theorem Ap.symm {v u : Value} (h : Ap v u) : Ap u v := fun k h1 h2 => h k h2 h1
theorem Ap.step {v u v1 : Value} {W : World} (h : Ap v u) (hat : v1.ownBlock = v.ownBlock ∨ ∃ b, v1.ownBlock = some b ∧ W.heap.size ≤ b) (hl : ∀ k, u.ownBlock = some k → k < W.heap.size) : Ap v1 u := fun k hk hu => by
  rcases hat with e | ⟨b, e, hb⟩
  · exact h k (e ▸ hk) hu
  · rw [e] at hk
    injection hk with hk
    have := hl k hu
    omega
theorem R_apart {k : IntKind} {e B : Nat} {w w1 : World} {v u : Value} {xs : List Int} (h : (Kd.int k).R e w B (fun _ => True) v xs) (hA : Ap v u) (hg : w.grownBy w1 u.ownBlock) : (Kd.int k).R e w1 B (fun _ => True) v xs := by
  obtain ⟨_, inner, hown, hr⟩ := h
  have h2 : (Kd.int k).R e w B (fun j => some j = v.ownBlock) v xs := ⟨fun j hj => hj.symm, inner, hown, hr.imp_ (fun _ _ hm => hm)⟩
  have h3 := Kd.R_grown h2 hg (fun j hj he => hA j hj.symm he.symm)
  exact Kd.R_mono h3 (fun _ _ => trivial)
section
variable {P : Program} {ops : Array Oper} {Q : Exit → Act → World → Prop} {B : Nat} {W : World} {a : Act} {o : Oper} {K : Nat → Option Nat → Act → World → Prop}
theorem ev_app1h {d : Tmp} (t e : TypeId) (k : IntKind) (bytes : Nat) (s x : Operand) (v : Value) (xs : List Int) (y : Int) (g : Nat) (hgd : o.guard = none) (ho : o.op = .call { callee := .builtin .append, args := #[s, x], argTypes := #[t, t] }) (hd : o.dst = some d) (ht : P.underlying t = some (.slice e))
    (hinfo : (P.info? e).map (fun i => (i.zero, i.size, i.bytes)) = some (some (.int k 0), 1, bytes)) (hb0 : 0 < bytes) (hs : a.eval s = v) (hx : a.eval x = .slice (some ⟨g, 0, none⟩) 1 1)
    (HO : (Kd.int k).R e W B (fun _ => True) v xs) (hg : W.heap[g]? = some (.cells #[.int k y] e (0, 0))) (hB : B ≤ W.heap.size) (hl : (xs.length + 1) * bytes ≤ 140737488355328)
    (h : ∀ v1 w1, (Kd.int k).R e w1 B (fun _ => True) v1 (xs ++ [y]) → Below B W w1 → W.grownBy w1 v.ownBlock → (v1.ownBlock = v.ownBlock ∨ ∃ b, v1.ownBlock = some b ∧ W.heap.size ≤ b) → K B none (a.put (some d) v1) w1) : wpList P ops (EvQ (Gr B none W) (Goes K B none) Q) [o] a W := by
  have hC : (Kd.int k).C W (some ⟨g, 0, none⟩) 1 [y] := by
    have hR := R_of_blk (k := k) (l := [y]) (B := 0) (by simpa using hg) (Nat.zero_le _) (show 1 ≤ maxLen from by decide)
    exact (Kd.R_reads' hR).2.2
  refine Kd.R_append_row (Value.int k) 0 B hgd s x t e (.int k 0) bytes ho ht hinfo rfl hb0 v xs [y] (some ⟨g, 0, none⟩) 1 1 (fun _ => True) hs hx (fun _ _ => trivial) HO hC (Below.refl _ _) hB hl ?_
  intro v1 w1 h1 h2 h3 h4
  rw [hd]
  exact ev_app ⟨h2.os, h2.tape, h2.output, h2.size, fun i hi _ => h2.block i hi⟩ (Nat.le_refl _) (NewRow.none_ _ _) (h v1 w1 h1 h2 h3 h4)
end
theorem app2e {P : Program} {l : List Oper} {Q : Exit → Act → World → Prop} {B : Nat} {W : World} {a : Act} {k1 k2 k3 k4 : Nat} {js : List Nat} (d1 d2 d3 d4 : Tmp) (t1 e1 t2 e2 : TypeId) (ka kb : IntKind) (by1 by2 : Nat) (s1 x1 s2 x2 : Operand)
    (v1 v2 : Value) (xs1 xs2 : List Int) (y1 y2 : Int)
    (o1 : (pick l k1).guard = none ∧ (pick l k1).op = .buildSlice t1 1 #[(0, x1)] ∧ (pick l k1).dst = some d1) (o2 : (pick l k2).guard = none ∧ (pick l k2).op = .call { callee := .builtin .append, args := #[s1, .tmp d1], argTypes := #[t1, t1] } ∧ (pick l k2).dst = some d2)
    (o3 : (pick l k3).guard = none ∧ (pick l k3).op = .buildSlice t2 1 #[(0, x2)] ∧ (pick l k3).dst = some d3) (o4 : (pick l k4).guard = none ∧ (pick l k4).op = .call { callee := .builtin .append, args := #[s2, .tmp d3], argTypes := #[t2, t2] } ∧ (pick l k4).dst = some d4)
    (ht1 : P.underlying t1 = some (.slice e1)) (hi1 : (P.info? e1).map (fun i => (i.zero, i.size, i.bytes)) = some (some (.int ka 0), 1, by1)) (hb1 : 0 < by1)
    (ht2 : P.underlying t2 = some (.slice e2)) (hi2 : (P.info? e2).map (fun i => (i.zero, i.size, i.bytes)) = some (some (.int kb 0), 1, by2)) (hb2 : 0 < by2) (hA : Ap v1 v2)
    (hds : (d1 != d2 && d1 != d3 && d1 != d4 && d2 != d3 && d2 != d4 && d3 != d4) = true) (hsz : d1 < a.tmps.size ∧ d2 < a.tmps.size ∧ d3 < a.tmps.size ∧ d4 < a.tmps.size)
    (hfr : (free s1 d1 && free s1 d3 && free x2 d1 && free x2 d2 && free s2 d1 && free s2 d2 && free s2 d3 && free x1 d3) = true)
    (hs1 : a.eval s1 = v1) (hx1 : a.eval x1 = .int ka y1) (hs2 : a.eval s2 = v2) (hx2 : a.eval x2 = .int kb y2)
    (R1 : (Kd.int ka).R e1 W B (fun _ => True) v1 xs1) (R2 : (Kd.int kb).R e2 W B (fun _ => True) v2 xs2) (hB : B ≤ W.heap.size) (hl1 : (xs1.length + 1) * by1 ≤ 140737488355328) (hl2 : (xs2.length + 1) * by2 ≤ 140737488355328)
    (h : ∀ (u1 u3 : Value) (v1' v2' : Value) (w' : World), (Kd.int ka).R e1 w' B (fun _ => True) v1' (xs1 ++ [y1]) → (Kd.int kb).R e2 w' B (fun _ => True) v2' (xs2 ++ [y2]) → Below B W w' → Ap v1' v2' →
      wpQuiet P l.toArray (fun w'' => ∃ n : GW w' B none, w'' = n.w) (fun a' => Q .normal a' w') (picks l js) ((((a.put (some d1) u1).put (some d2) v1').put (some d3) u3).put (some d4) v2')) :
    wpTr P l Q (.two [] k1 (.two [] k2 (.ev [] k3 (.ev [] k4 (.done js))) k3 (.ev [] k2 (.ev [] k4 (.done js)))) k3 (.ev [] k1 (.ev [] k2 (.ev [] k4 (.done js))))) B none a W := by
  obtain ⟨g1, p1, q1⟩ := o1
  obtain ⟨g2, p2, q2⟩ := o2
  obtain ⟨g3, p3, q3⟩ := o3
  obtain ⟨g4, p4, q4⟩ := o4
  simp only [Bool.and_eq_true, bne_iff_ne, ne_eq] at hds
  obtain ⟨⟨⟨⟨⟨n12, n13⟩, n14⟩, n23⟩, n24⟩, n34⟩ := hds
  simp only [Bool.and_eq_true] at hfr
  obtain ⟨⟨⟨⟨⟨⟨⟨f1, f2⟩, f3⟩, f4⟩, f5⟩, f6⟩, f7⟩, f8⟩ := hfr
  obtain ⟨z1, z2, z3, z4⟩ := hsz
  have al : ∀ {w : World} (hb : B ≤ w.heap.size) (ob : Obj), Below w.heap.size w (w.alloc ob) := fun _ ob => (Below.refl _ _).alloc (Nat.le_refl _) ob
  have lt1 := Kd.R_lt R1
  have lt2 := Kd.R_lt R2
  refine ⟨?_, ?_⟩
  · -- the first row's number is built first
    refine ev_lit1 t1 e1 ka by1 x1 y1 g1 p1 q1 ht1 hi1 hx1 hB ?_
    have hnew := heap_alloc_new W (.cells #[.int ka y1] e1)
    have b1 := al hB (.cells #[.int ka y1] e1)
    have hB1 : B ≤ (W.alloc (.cells #[.int ka y1] e1)).heap.size := Nat.le_trans hB b1.size
    have R1' := Kd.R_below R1 b1
    have R2' := Kd.R_below R2 b1
    have sz1 := b1.size
    have bb1 : Below B W (W.alloc (.cells #[.int ka y1] e1)) := b1.mono hB
    generalize W.alloc (.cells #[.int ka y1] e1) = W1 at hnew b1 sz1 hB1 R1' R2' bb1 ⊢
    generalize W.heap.size = n1 at hnew ⊢
    refine ⟨?_, ?_⟩
    · -- it is appended, then the second
      refine ev_app1h t1 e1 ka by1 s1 (.tmp d1) v1 xs1 y1 n1 g2 p2 q2 ht1 hi1 hb1 ((put_free a f1 _).trans hs1) (put_same a z1 _) R1' hnew hB1 hl1 ?_
      intro w1 W2 R1'' bb2 hg2 ha2
      have R2'' := R_apart R2' hA.symm hg2
      have hA2 := Ap.step hA ha2 (Kd.R_lt R2')
      have hB2 := Nat.le_trans hB1 bb2.size
      refine ev_lit1 t2 e2 kb by2 x2 y2 g3 p3 q3 ht2 hi2 ((put_free _ f4 _).trans ((put_free _ f3 _).trans hx2)) hB2 ?_
      have hnew2 := heap_alloc_new W2 (.cells #[.int kb y2] e2)
      have b3 := al hB2 (.cells #[.int kb y2] e2)
      have hB3 : B ≤ (W2.alloc (.cells #[.int kb y2] e2)).heap.size := Nat.le_trans hB2 b3.size
      have R13 := Kd.R_below R1'' b3
      have R23 := Kd.R_below R2'' b3
      have bb3 := bb2.trans (b3.mono hB2)
      generalize W2.alloc (.cells #[.int kb y2] e2) = W3 at hnew2 b3 hB3 R13 R23 bb3 ⊢
      generalize W2.heap.size = n2 at hnew2 ⊢
      refine ev_app1h t2 e2 kb by2 s2 (.tmp d3) v2 xs2 y2 n2 g4 p4 q4 ht2 hi2 hb2 ((put_free _ f7 _).trans ((put_free _ f6 _).trans ((put_free _ f5 _).trans hs2))) (put_same _ (by rw [put_size, put_size]; exact z3) _) R23 hnew2 hB3 hl2 ?_
      intro w2 W4 R24 bb4 hg4 ha4
      exact h _ _ w1 w2 W4 (R_apart R13 hA2 hg4) R24 (bb1.trans (bb3.trans bb4)) (Ap.step hA2.symm ha4 (Kd.R_lt R13)).symm
    · -- the second row's number is built, then the first is appended
      refine ev_lit1 t2 e2 kb by2 x2 y2 g3 p3 q3 ht2 hi2 ((put_free _ f3 _).trans hx2) hB1 ?_
      have hnew2 := heap_alloc_new W1 (.cells #[.int kb y2] e2)
      have b3 := al hB1 (.cells #[.int kb y2] e2)
      have hB3 : B ≤ (W1.alloc (.cells #[.int kb y2] e2)).heap.size := Nat.le_trans hB1 b3.size
      have hnew1 := blk_below hnew b3
      have R13 := Kd.R_below R1' b3
      have R23 := Kd.R_below R2' b3
      have bb3 := bb1.trans (b3.mono hB1)
      generalize W1.alloc (.cells #[.int kb y2] e2) = W3 at hnew2 b3 hB3 R13 R23 bb3 hnew1 ⊢
      obtain ⟨n2, en2⟩ : ∃ n, n = W1.heap.size := ⟨_, rfl⟩
      have hn2 : W.heap.size ≤ n2 := by rw [en2]; exact sz1
      rw [← en2] at hnew2 ⊢
      refine ev_app1h t1 e1 ka by1 s1 (.tmp d1) v1 xs1 y1 n1 g2 p2 q2 ht1 hi1 hb1 ((put_free _ f2 _).trans ((put_free _ f1 _).trans hs1)) ((put_free _ (by simpa [free] using n13) _).trans (put_same a z1 _)) R13 hnew1 hB3 hl1 ?_
      intro w1 W4 R14 bb4 hg4 ha4
      have R24 := R_apart R23 hA.symm hg4
      have hA4 := Ap.step hA ha4 (Kd.R_lt R23)
      have hnew4 := blk_grown hnew2 hg4 (fun he => by have := lt1 n2 he.symm; omega)
      refine ev_app1h t2 e2 kb by2 s2 (.tmp d3) v2 xs2 y2 n2 g4 p4 q4 ht2 hi2 hb2 ((put_free _ f6 _).trans ((put_free _ f7 _).trans ((put_free _ f5 _).trans hs2))) ((put_free _ (by simpa [free] using Ne.symm n23) _).trans (put_same _ (by rw [put_size]; exact z3) _)) R24 hnew4 (Nat.le_trans hB3 bb4.size) hl2 ?_
      intro w2 W5 R25 bb5 hg5 ha5
      have := h (.slice (some ⟨n1, 0, none⟩) 1 1) (.slice (some ⟨n2, 0, none⟩) 1 1) w1 w2 W5 (R_apart R14 hA4 hg5) R25 (bb3.trans (bb4.trans bb5)) (Ap.step hA4.symm ha5 (Kd.R_lt R14)).symm
      rwa [put_comm (a.put (some d1) _) n23] at this
  · -- the second row's number is built first
    refine ev_lit1 t2 e2 kb by2 x2 y2 g3 p3 q3 ht2 hi2 hx2 hB ?_
    have hnew := heap_alloc_new W (.cells #[.int kb y2] e2)
    have b1 := al hB (.cells #[.int kb y2] e2)
    have hB1 : B ≤ (W.alloc (.cells #[.int kb y2] e2)).heap.size := Nat.le_trans hB b1.size
    have R1' := Kd.R_below R1 b1
    have R2' := Kd.R_below R2 b1
    have sz1 := b1.size
    have bb1 : Below B W (W.alloc (.cells #[.int kb y2] e2)) := b1.mono hB
    generalize W.alloc (.cells #[.int kb y2] e2) = W1 at hnew b1 sz1 hB1 R1' R2' bb1 ⊢
    obtain ⟨n2, en2⟩ : ∃ n, n = W.heap.size := ⟨_, rfl⟩
    have hn2 : W.heap.size ≤ n2 := Nat.le_of_eq en2.symm
    rw [← en2] at hnew ⊢
    refine ev_lit1 t1 e1 ka by1 x1 y1 g1 p1 q1 ht1 hi1 ((put_free _ f8 _).trans hx1) hB1 ?_
    have hnew1 := heap_alloc_new W1 (.cells #[.int ka y1] e1)
    have b3 := al hB1 (.cells #[.int ka y1] e1)
    have hB3 : B ≤ (W1.alloc (.cells #[.int ka y1] e1)).heap.size := Nat.le_trans hB1 b3.size
    have hnew2 := blk_below hnew b3
    have R13 := Kd.R_below R1' b3
    have R23 := Kd.R_below R2' b3
    have bb3 := bb1.trans (b3.mono hB1)
    generalize W1.alloc (.cells #[.int ka y1] e1) = W3 at hnew2 b3 hB3 R13 R23 bb3 hnew1 ⊢
    generalize W1.heap.size = n1 at hnew1 ⊢
    refine ev_app1h t1 e1 ka by1 s1 (.tmp d1) v1 xs1 y1 n1 g2 p2 q2 ht1 hi1 hb1 ((put_free _ f1 _).trans ((put_free _ f2 _).trans hs1)) (put_same _ (by rw [put_size]; exact z1) _) R13 hnew1 hB3 hl1 ?_
    intro w1 W4 R14 bb4 hg4 ha4
    have R24 := R_apart R23 hA.symm hg4
    have hA4 := Ap.step hA ha4 (Kd.R_lt R23)
    have hnew4 := blk_grown hnew2 hg4 (fun he => by have := lt1 n2 he.symm; omega)
    refine ev_app1h t2 e2 kb by2 s2 (.tmp d3) v2 xs2 y2 n2 g4 p4 q4 ht2 hi2 hb2 ((put_free _ f6 _).trans ((put_free _ f5 _).trans ((put_free _ f7 _).trans hs2))) ((put_free _ (by simpa [free] using Ne.symm n23) _).trans ((put_free _ (by simpa [free] using Ne.symm n13) _).trans (put_same a z3 _))) R24 hnew4 (Nat.le_trans hB3 bb4.size) hl2 ?_
    intro w2 W5 R25 bb5 hg5 ha5
    have := h (.slice (some ⟨n1, 0, none⟩) 1 1) (.slice (some ⟨n2, 0, none⟩) 1 1) w1 w2 W5 (R_apart R14 hA4 hg5) R25 (bb3.trans (bb4.trans bb5)) (Ap.step hA4.symm ha5 (Kd.R_lt R14)).symm
    rw [put_comm (a.put (some d1) _) n23, put_comm a n13] at this
    exact this
end Go.Proofs.Ytagfplcafeblbaa.Q
