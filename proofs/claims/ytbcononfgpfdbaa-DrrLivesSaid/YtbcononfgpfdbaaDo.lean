/-
  drr: the document's Spend.
-/
import Derived.Test.YtbcononfgpfdbaaDn
namespace Go.Proofs.Ytbcononfgpfdbaa.D
open Go.RowKit Go.Proofs.Ytbcononfgpfdbaa.L Go.Proofs.YtbcononfgpfdbaaW.PrintWords

/-- the place is another one now -/
theorem XR.place {b B n : Nat} {q : Int} {Z : List Mem} {w : World} (h : XR b q Z n B w) (r : Nat) : XR b q Z r B (w.setCell ⟨b, 3, none⟩ (.int .i64 r)) ∧ FX B w (w.setCell ⟨b, 3, none⟩ (.int .i64 r)) := by
  obtain ⟨v1, v2, h1, h2, h3, h4⟩ := h.ex
  exact ⟨⟨v1, v2, h1.s3 r, h2, row_set h3 h1 (by decide), row_set h4 h1 (by decide)⟩, FX.set h1 h2 (.inl rfl)⟩
set_option maxHeartbeats 6400000 in
set_option maxRecDepth 100000 in
theorem xspend_any (b B n : Nat) (q : Int) (Z : List Mem) (cost : Int) (w : World) (h : XR b q Z n B w) (hat : n < Z.length ∨ (Z = [] ∧ n = 0)) (hn : Z.length ≤ 16) (hq : 1 ≤ q ∧ q ≤ 65536) (hs : small Z) :
    Calls Try.prog 23 #[.pointer (some ⟨b, 0, none⟩), .int .i64 cost] w fun e w' => e = .returned (.tuple #[.bool (spendX q Z n cost).1, .int .i64 (spendX q Z n cost).2.1]) ∧ XR b q (spendX q Z n cost).2.2.1 (spendX q Z n cost).2.2.2 B w' ∧ FX B w w' := by
  have HXR := Lib.hid h
  obtain ⟨A1, c1, A2, c2, hx, hB, h1, h2⟩ := h.opens
  obtain ⟨k0, k1, k2, k3, kf⟩ := hx.cells
  unfold spendX
  by_cases hcst : cost < 1 ∨ 65536 < cost
  · rw [if_pos hcst]
    rcases hcst with hcst | hcst
    · have t1 : decide (cost < 1) = true := decide_eq_true hcst
      clear hx h1 h2 k0 k1 k2 k3 kf h hB hcst hat
      go_enter Try.func23, Try.ntmps23
      go_wp2_with fail
      go_ret2
      exact ⟨rfl, HXR.out, FX.refl _ _⟩
    · have t1 : decide (cost < 1) = false := decide_eq_false (by omega)
      have t2 : decide (65536 < cost) = true := decide_eq_true hcst
      clear hx h1 h2 k0 k1 k2 k3 kf h hB hcst hat
      go_enter Try.func23, Try.ntmps23
      go_wp2_with fail
      go_ret2
      exact ⟨rfl, HXR.out, FX.refl _ _⟩
  rw [if_neg hcst]
  have t1 : decide (cost < 1) = false := decide_eq_false (by omega)
  have t2 : decide (65536 < cost) = false := decide_eq_false (by omega)
  by_cases hz : Z.length = 0
  · rw [if_pos hz]
    rw [hz] at k1
    clear hx h1 h2 k0 k2 k3 kf h hB hcst hat hz
    go_enter Try.func23, Try.ntmps23
    go_wp2_with fail
    go_ret2
    exact ⟨rfl, HXR.out, FX.refl _ _⟩
  rw [if_neg hz]
  have hk0 : n < Z.length := by
    rcases hat with h | ⟨h, _⟩
    · exact h
    · subst h; simp at hz
  have tz : ((Z.length : Int) == 0) = false := beq_eq_false_iff_ne.2 (by omega)
  have hp1 := h
  have HSM := Lib.hid hs
  have HQ := Lib.hid (show (1 ≤ q ∧ q ≤ 65536) ∧ 1 ≤ cost ∧ cost ≤ 65536 from ⟨hq, by omega⟩)
  obtain ⟨gg, hA2, _, _, hcc⟩ := row_at h2 (by rw [List.length_map]; omega)
  have e0 := hcc n (by rw [List.length_map]; exact hk0)
  rw [map_getD2 hk0] at e0
  subst hA2
  obtain ⟨crd, hcrd⟩ : ∃ crd, (Z.getD n zM).2 = crd := ⟨_, rfl⟩
  rw [hcrd] at e0 ⊢
  have z1 : (0 : Int) ≤ (n : Int) := by omega
  have z2 : (n : Int) < (Z.length : Int) := by omega
  have q2 : ∀ x : Q.GW w.drew w.heap.size none, x.w.cell? ⟨b, 2, none⟩ = some (.slice (some ⟨gg, 0, none⟩) Z.length c2) := fun m => pw_cell_below (stay1 (stay0 w) m.below) k2
  have q3 : ∀ x : Q.GW w.drew w.heap.size none, x.w.cell? ⟨b, 3, none⟩ = some (.int .i64 n) := fun m => pw_cell_below (stay1 (stay0 w) m.below) k3
  have q4 : ∀ x : Q.GW w.drew w.heap.size none, x.w.cell? ⟨gg, n, none⟩ = some (.int .i64 crd) := fun m => pw_cell_below (stay1 (stay0 w) m.below) e0
  have HCR := Lib.hid hcrd
  have HK := Lib.hid hk0
  have hn16 : (n : Int) ≤ 16 := by omega
  by_cases hcm : cost ≤ crd
  · rw [if_pos hcm]
    have t4 : decide (cost ≤ crd) = true := decide_eq_true hcm
    clear hx h1 h2 k0 k2 k3 kf h hB hcst hat hz hcc e0 hs hq hp1 hcrd hk0 hcm
    go_enter Try.func23, Try.ntmps23
    go_wp2_with fail
    refine Q.wp_region_segs none [([0, 1, 2, 3, 4, 5, 6, 7, 8, 9, 10, 11], none)] (by kernel_rfl) (by kernel_rfl) (by kernel_rfl) (by kernel_rfl) ?_
    dsimp only [Q.wpSegs, Q.picks, Q.pick]
    repeat (go_big_quiet_step (fail))
    refine wpQuiet_nil ?_
    refine NoPanic.normal ?_
    clear q2 q3 q4 t4 k1 tz t1 t2
    have hp1 := HXR.out.below (stay0 w)
    have HF1 := Lib.hid (FX.of_below (stay0 w) HXR.out.base)
    obtain ⟨w5, hw5⟩ : ∃ w5, w5 = w.drew := ⟨_, rfl⟩
    rw [← hw5] at hp1 HF1 ⊢
    clear hw5
    have hk0 := HK.out
    go_wp2_with fail
    obtain ⟨A5, c5, g, c6, cs6, hx6, hb6, e0, hset⟩ := hp1.bump hk0
    obtain ⟨m0, m1, m2, m3, mf⟩ := hx6.cells
    have hcred := HSM.out (Z.getD n zM) (getD_mem hk0)
    have HSET := Lib.hid (hset (-cost))
    have fg := blk_frozen hb6 n
    have HCR2 := HCR
    rw [HCR.out] at e0 hcred HSET
    obtain ⟨cr, hcr⟩ : ∃ cr, crd = cr := ⟨_, rfl⟩
    rw [hcr] at e0 hcred HSET
    clear hcr
    have s1 : IntKind.i64.wrap (cr - cost) = cr - cost := IntWalk.i64_in _ (by have := HQ.out; omega)
    have z1 : (0 : Int) ≤ (n : Int) := by omega
    have z2 : (n : Int) < (Z.length : Int) := by omega
    have q0 : ∀ x : Q.GW w5.drew w5.heap.size none, x.w.cell? ⟨b, 0, none⟩ = some (.int .i64 q) := fun m => pw_cell_below (stay1 (stay0 w5) m.below) m0
    have q2 : ∀ x : Q.GW w5.drew w5.heap.size none, x.w.cell? ⟨b, 2, none⟩ = some (.slice (some ⟨g, 0, none⟩) Z.length c6) := fun m => pw_cell_below (stay1 (stay0 w5) m.below) m2
    have q3 : ∀ x : Q.GW w5.drew w5.heap.size none, x.w.cell? ⟨b, 3, none⟩ = some (.int .i64 n) := fun m => pw_cell_below (stay1 (stay0 w5) m.below) m3
    have q4 : ∀ x : Q.GW w5.drew w5.heap.size none, x.w.cell? ⟨g, n, none⟩ = some (.int .i64 cr) := fun m => pw_cell_below (stay1 (stay0 w5) m.below) e0
    clear hset hp1 hx6 hb6 m0 m1 m2 m3 mf hcred
    refine Q.wp_region_segsF none [] [0, 1, 2, 3, 4, 5, 6, 7, 8, 9, 10, 11, 12, 13, 14, 15, 16, 17, 18, 19, 20] 21 (by kernel_rfl) (by kernel_rfl) (by kernel_rfl) (by kernel_rfl) ?_
    dsimp only [Q.wpSegsF, Q.picks, Q.pick]
    repeat (go_big_quiet_step (fail))
    refine wpQuiet_nil ?_
    clear q0 q2 q3 q4 s1 z1 z2
    have e0' : w5.drew.cell? ⟨g, n, none⟩ = some (.int .i64 cr) := e0
    have f0' : w5.drew.frozen? ⟨g, n, none⟩ = false := fg
    go_wp2
    refine NoPanic.normal ?_
    go_wp2
    go_ret2
    rw [show cr + -cost = cr - cost from by omega] at HSET
    exact ⟨rfl, XR_drew HSET.out.1, HF1.out.trans (FX_drew HSET.out.2)⟩
  · rw [if_neg hcm]
    have t4 : decide (cost ≤ crd) = false := decide_eq_false hcm
    obtain ⟨r, hr⟩ : ∃ r, (n + 1) % Z.length = r := ⟨_, rfl⟩
    have hrl : r < Z.length := by rw [← hr]; exact Nat.mod_lt _ (by omega)
    have z3 : ((n : Int) + 1) % (Z.length : Int) = (r : Int) := by rw [← hr]; simp
    have z4 : (1 : Int) ≤ (Z.length : Int) := by omega
    have z5 : IntKind.i64.wrap ((n : Int) + 1) = (n : Int) + 1 := IntWalk.i64_in _ (by omega)
    have z6 : (0 : Int) ≤ (n : Int) + 1 := by omega
    rw [hr]
    have HRL := Lib.hid hrl
    have hZ16 : (Z.length : Int) ≤ 16 := by omega
    clear hx h1 h2 k0 k2 k3 kf h hB hcst hat hz hcc e0 hs hq hp1 hcrd hk0 hcm hr hrl
    go_enter Try.func23, Try.ntmps23
    go_wp2_with fail
    refine Q.wp_region_segs none [([0, 1, 2, 3, 4, 5, 6, 7, 8, 9, 10, 11], none)] (by kernel_rfl) (by kernel_rfl) (by kernel_rfl) (by kernel_rfl) ?_
    dsimp only [Q.wpSegs, Q.picks, Q.pick]
    repeat (go_big_quiet_step (fail))
    refine wpQuiet_nil ?_
    refine NoPanic.normal ?_
    clear q2 q3 q4 t4 k1 t1 t2
    have hp1 := HXR.out.below (stay0 w)
    have HF1 := Lib.hid (FX.of_below (stay0 w) HXR.out.base)
    obtain ⟨w5, hw5⟩ : ∃ w5, w5 = w.drew := ⟨_, rfl⟩
    rw [← hw5] at hp1 HF1 ⊢
    clear hw5
    have HP1 := Lib.hid hp1
    obtain ⟨A3, c3, A4, c4, hx, hB, _, _⟩ := hp1.opens
    obtain ⟨m0, m1, m2, m3, mf⟩ := hx.cells
    have q1 : ∀ x : Q.GW w5.drew w5.heap.size none, x.w.cell? ⟨b, 1, none⟩ = some (.slice A3 Z.length c3) := fun m => pw_cell_below (stay1 (stay0 w5) m.below) m1
    have q3 : ∀ x : Q.GW w5.drew w5.heap.size none, x.w.cell? ⟨b, 3, none⟩ = some (.int .i64 n) := fun m => pw_cell_below (stay1 (stay0 w5) m.below) m3
    have e3 : w5.drew.cell? ⟨b, 3, none⟩ = some (.int .i64 n) := m3
    have f3 : w5.drew.frozen? ⟨b, 3, none⟩ = false := mf 3
    clear hx m0 m1 m2 m3 mf hp1 hB
    go_wp2_with fail
    refine Q.wp_region_segsF none [] [0, 1, 2, 3, 4, 5, 6, 7, 8, 9, 10, 11, 12, 13] 14 (by kernel_rfl) (by kernel_rfl) (by kernel_rfl) (by kernel_rfl) ?_
    dsimp only [Q.wpSegsF, Q.picks, Q.pick]
    repeat (go_big_quiet_step (fail))
    refine wpQuiet_nil ?_
    clear q1 q3 z4 z5 z6 tz
    have HZ3 := Lib.hid z3
    clear z3
    go_wp2
    refine NoPanic.normal ?_
    rw [HZ3.out]
    obtain ⟨hp1, hp2⟩ := (HP1.out.below (stay0 w5)).place r
    have HF2 := Lib.hid ((HF1.out.trans (FX.of_below (stay0 w5) HP1.out.base)).trans hp2)
    obtain ⟨w6, hw6⟩ : ∃ w6, w6 = w5.drew.setCell ⟨b, 3, none⟩ (.int .i64 r) := ⟨_, rfl⟩
    rw [show (w5.setCell ⟨b, 3, none⟩ (.int .i64 (r : Int))).drew = w6 from hw6.symm]
    rw [← hw6] at hp1 HF2
    clear hw6 e3 f3 hp2 z1 z2
    have hk0 := HRL.out
    go_wp2_with fail
    obtain ⟨A5, c5, g, c6, cs6, hx6, hb6, e0, hset⟩ := hp1.bump hk0
    obtain ⟨m0, m1, m2, m3, mf⟩ := hx6.cells
    have hcred := HSM.out (Z.getD r zM) (getD_mem hk0)
    have HSET := Lib.hid (hset (q))
    have fg := blk_frozen hb6 r
    generalize (Z.getD r zM).2 = cr at *
    have s1 : IntKind.i64.wrap (cr + q) = cr + q := IntWalk.i64_in _ (by have := HQ.out; omega)
    have z1 : (0 : Int) ≤ (r : Int) := by omega
    have z2 : (r : Int) < (Z.length : Int) := by omega
    have q0 : ∀ x : Q.GW w6.drew w6.heap.size none, x.w.cell? ⟨b, 0, none⟩ = some (.int .i64 q) := fun m => pw_cell_below (stay1 (stay0 w6) m.below) m0
    have q2 : ∀ x : Q.GW w6.drew w6.heap.size none, x.w.cell? ⟨b, 2, none⟩ = some (.slice (some ⟨g, 0, none⟩) Z.length c6) := fun m => pw_cell_below (stay1 (stay0 w6) m.below) m2
    have q3 : ∀ x : Q.GW w6.drew w6.heap.size none, x.w.cell? ⟨b, 3, none⟩ = some (.int .i64 r) := fun m => pw_cell_below (stay1 (stay0 w6) m.below) m3
    have q4 : ∀ x : Q.GW w6.drew w6.heap.size none, x.w.cell? ⟨g, r, none⟩ = some (.int .i64 cr) := fun m => pw_cell_below (stay1 (stay0 w6) m.below) e0
    clear hset hp1 hx6 hb6 m0 m1 m2 m3 mf hcred
    refine Q.wp_region_segsF none [] [0, 1, 2, 3, 4, 5, 6, 7, 8, 9, 10, 11, 12, 13, 14, 15, 16, 17, 18, 19, 20, 21, 22, 23] 24 (by kernel_rfl) (by kernel_rfl) (by kernel_rfl) (by kernel_rfl) ?_
    dsimp only [Q.wpSegsF, Q.picks, Q.pick]
    repeat (go_big_quiet_step (fail))
    refine wpQuiet_nil ?_
    clear q0 q2 q3 q4 s1 z1 z2
    have e0' : w6.drew.cell? ⟨g, r, none⟩ = some (.int .i64 cr) := e0
    have f0' : w6.drew.frozen? ⟨g, r, none⟩ = false := fg
    go_wp2
    refine NoPanic.normal ?_
    go_wp2
    go_ret2
    exact ⟨rfl, XR_drew HSET.out.1, HF2.out.trans (FX_drew HSET.out.2)⟩
end Go.Proofs.Ytbcononfgpfdbaa.D
