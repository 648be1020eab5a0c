/-
  ansi: rows of events that stay; all; alive.
-/
import Derived.Test.YtbcononfgpfdbaaUk
namespace Go.Proofs.Ytbcononfgpfdbaa.An
open Go.RowKit Go.Proofs.Ytbcononfgpfdbaa.L Go.Proofs.Ytbcononfgpfdbaa.N Go.Proofs.YtbcononfgpfdbaaW.PrintWords

/-- what a parser has told stays, when it is fed again -/
theorem evs_stay {n0 b : Nat} {vp vt vp' vt' vr v : Value} {xs : List Nat} {evs : List Ev} {cs : Array Value} {w w1 : World} (h : kE.R tE w n0 (fun k => some k ≠ vp.ownBlock) v evs) (ht : TR b vp vt nilS vp' vt' vr w w1) (hb : w.heap[b]? = some (.cells cs tP (0, 0))) (hvt : (Kd.int .i32).R tR w n0 (fun _ => True) vt (nat xs)) :
    kE.R tE w1 n0 (fun k => some k ≠ vp.ownBlock) v evs := by
  have h1 := Kd.R_bound h
  refine Kd.R_mono (Kd.R_step h1 (fun k hk _ => ?_)) (fun k hk => hk.1)
  obtain ⟨h2, _, h4, q, hq, cells, hc⟩ := hk
  have hq2 : q = tE ∨ q = tI := by simp [kE, Kd.pair, Kd.slice, Kd.string, Kd.int, Kd.scalar] at hq; exact hq
  refine ht.keep k h4 (fun e => ?_) h2 (fun e => ?_) (by simp [Value.ownBlock])
  · rw [e, hb] at hc
    injection hc with hc
    injection hc with _ hc _
    rcases hq2 with rfl | rfl <;> exact absurd hc (by decide)
  · obtain ⟨c2, hc2⟩ := Kd.R_typed hvt k e.symm
    rw [hc] at hc2
    injection hc2 with hc2
    injection hc2 with _ hc2 _
    rcases hq2 with rfl | rfl <;> exact absurd hc2 (by decide)
/-- nothing below the bound is written -/
theorem TR.low {n0 b : Nat} {vp vt vp' vt' vr : Value} {w w1 w2 : World} (h : TR b vp vt nilS vp' vt' vr w1 w2) (hb : Below n0 w w1) (hg : n0 ≤ b) (h1 : ∀ k, vp.ownBlock = some k → n0 ≤ k) (h2 : ∀ k, vt.ownBlock = some k → n0 ≤ k) (hs : n0 ≤ w1.heap.size) : Below n0 w w2 :=
  ⟨h.os.trans hb.os, h.tape.trans hb.tape, h.output.trans hb.output, Nat.le_trans hb.size h.size, fun k hk => (h.keep k (by omega) (by omega) (fun e => by have := h1 k e.symm; omega) (fun e => by have := h2 k e.symm; omega) (by simp [Value.ownBlock])).trans (hb.block k hk)⟩
/-- a row of events of one's own, laid open -/
theorem ev_at {w : World} {n0 : Nat} {ok : Nat → Prop} {v : Value} {l : List Ev} (h : kE.R tE w n0 ok v l) (h0 : 0 < l.length) : ∃ g cap, v = .slice (some ⟨g, 0, none⟩) l.length cap ∧ g < w.heap.size ∧ n0 ≤ g ∧ ∀ j, j < l.length → ∃ Aj cj, (∀ i, i < 7 → w.cell? ⟨g, j * 7 + i, none⟩ = (evA (l.getD j zE) Aj cj)[i]?) ∧ (l.getD j zE).2.2.2.2.2.1.length ≤ cj ∧ (Kd.int .i64).C w Aj (l.getD j zE).2.2.2.2.2.1.length (l.getD j zE).2.2.2.2.2.1 := by
  obtain ⟨g, cap, rfl, hg, hlt, _⟩ := Kd.R_form h h0
  obtain ⟨_, _, hC⟩ := Kd.R_reads' h
  obtain ⟨b, off, e, _, hh⟩ := (E_open hC).2.resolve_left (fun h => by rw [h] at h0; exact absurd h0 (by simp))
  injection e with e
  injection e with e1 e2 _
  subst e1 e2
  exact ⟨g, cap, rfl, hlt, hg, fun j hj => by
    obtain ⟨Aj, cj, k1, k2, k3⟩ := hh j hj
    exact ⟨Aj, cj, fun i hi => by have := k1 i hi; rwa [Nat.zero_add] at this, k2, k3⟩⟩
abbrev l1 : List Int := [27, 91, 49, 59, 109, 65]
abbrev l2 : List Int := [27, 93, 48, 59, 120, 7, 10]
abbrev o1 : List Ev := [(4, 0, 0, 0, 109, [1, 0], .empty), (1, 65, 0, 0, 0, [], .empty)]
abbrev o2 : List Ev := [(5, 0, 0, 0, 0, [], ⟨#[48, 59, 120]⟩), (2, 10, 0, 0, 0, [], .empty)]
theorem run1 : (runS (enS 0) l1).2 = o1 := by kernel_rfl
theorem st1 : (runS (enS 0) l1).1 = enS 0 := by kernel_rfl
theorem run2 : (runS (enS 0) l2).2 = o2 := by kernel_rfl
theorem st2 : (runS (enS 0) l2).1 = enS 0 := by kernel_rfl
theorem C_r {W w : World} {l : List Int} {e : TypeId} (h : W = w.alloc (.cells (l.map (Value.int .i32)).toArray e)) (hl : l.length ≤ 1000) : (Kd.int .i32).C W (some ⟨w.heap.size, 0, none⟩) l.length l := by
  have hg : W.heap[w.heap.size]? = some (.cells (l.map (Value.int .i32)).toArray e (0, 0)) := h ▸ heap_alloc_new w _
  exact (Kd.R_reads' (R_of_blk (k := .i32) (l := l) (B := 0) hg (Nat.zero_le _) (Nat.le_trans hl (by decide)))).2.2
set_option maxRecDepth 100000 in
set_option maxHeartbeats 6400000 in
theorem alive_any (w : World) : Calls Try.prog 28 #[] w fun e w' => e = .returned (.bool true) ∧ Below w.heap.size w w' := by
  go_enter Try.func28, Try.ntmps28
  go_upto_region 2 with (go_at_call 29; refine (newp_any w).mono ?_; rintro e w1 ⟨b, rfl, hb, hp, hw⟩; (have HP1 := Lib.hid hp); (have HB1 := Lib.hid hw); clear hb hp hw)
  go_wp2_with fail
  refine calls_at fun W hW => ?_
  have hC := C_r (l := l1) hW (by decide)
  have hb2 : Below w1.heap.size w1 W := by rw [hW]; exact (Below.refl _ _).alloc (Nat.le_refl _) _
  have HF := Lib.hid (feed_any w.heap.size b nilS nilS (enS 0) l1 _ 6 W (HP1.out.below hb2) hC (by decide) (fun _ ad e => ⟨by injection e with e; subst e; have := HP1.out.lt; show w1.heap.size ≠ b; omega, by simp [Value.ownBlock], by simp [Value.ownBlock]⟩))
  rw [run1, st1] at HF
  have HB2 := Lib.hid (HB1.out.trans (hb2.mono HB1.out.size))
  have HG := Lib.hid (HP1.out.ge)
  clear hW hC hb2 HP1 HB1
  refine HF.out.mono ?_
  rintro e w3 ⟨vp3, vt3, vr3, rfl, hp3, hr3, ht3⟩
  have HP3 := Lib.hid hp3
  have HR3 := Lib.hid hr3
  have HB3 := Lib.hid (TR.low ht3 HB2.out HG.out (fun k hk => by simp [Value.ownBlock] at hk) (fun k hk => by simp [Value.ownBlock] at hk) HB2.out.size)
  clear hp3 hr3 ht3 HF HB2
  obtain ⟨A3, c3, hv3⟩ := Kd.R_slice HR3.out
  subst hv3
  go_wp2_with fail
  refine calls_at fun W2 hW2 => ?_
  have hC := C_r (l := l2) hW2 (by decide)
  have hb2 : Below w3.heap.size w3 W2 := by rw [hW2]; exact (Below.refl _ _).alloc (Nat.le_refl _) _
  have HF := Lib.hid (feed_any w.heap.size b vp3 vt3 (enS 0) l2 _ 7 W2 (HP3.out.below hb2) hC (by decide) (fun _ ad e => ⟨by injection e with e; subst e; have := HP3.out.lt; show w3.heap.size ≠ b; omega, fun e2 => by injection e with e; subst e; have := Kd.R_lt HP3.out.par _ e2.symm; exact absurd this (by simp), fun e2 => by injection e with e; subst e; have := Kd.R_lt HP3.out.txt _ e2.symm; exact absurd this (by simp)⟩))
  rw [run2, st2] at HF
  have HB4 := Lib.hid (HB3.out.trans (hb2.mono HB3.out.size))
  have HP4 := Lib.hid (HP3.out.below hb2)
  have HR4 := Lib.hid (Kd.R_below HR3.out hb2)
  clear hW2 hC hb2 HP3 HR3 HB3
  refine HF.out.mono ?_
  rintro e w5 ⟨vp5, vt5, vr5, rfl, hp5, hr5, ht5⟩
  have HP5 := Lib.hid hp5
  have HR5 := Lib.hid hr5
  have HR4b := Lib.hid (evs_stay HR4.out ht5 HP4.out.blk HP4.out.txt)
  have HB5 := Lib.hid (TR.low ht5 HB4.out HG.out (fun k hk => Kd.R_base HP4.out.par k hk) (fun k hk => Kd.R_base HP4.out.txt k hk) HB4.out.size)
  clear hp5 hr5 ht5 HF HB4 HP4 HR4
  obtain ⟨ga, ca, ea, _, _, ha⟩ := ev_at HR4b.out (by decide)
  injection ea with ea1 ea2 ea3
  subst ea1 ea3
  obtain ⟨gb, cb, rfl, _, _, hb⟩ := ev_at HR5.out (by decide)
  obtain ⟨Pa, pa, ca0, _, cC⟩ := ha 0 (by decide)
  obtain ⟨Pb, pb, ca1, _, _⟩ := ha 1 (by decide)
  obtain ⟨Pc, pc, cb0, _, _⟩ := hb 0 (by decide)
  obtain ⟨Pd, pd, cb1, _, _⟩ := hb 1 (by decide)
  have fa00 : w5.cell? ⟨ga, 0, none⟩ = some (.int .i64 4) := ca0 0 (by decide)
  have fa01 : w5.cell? ⟨ga, 1, none⟩ = some (.int .i32 0) := ca0 1 (by decide)
  have fa02 : w5.cell? ⟨ga, 2, none⟩ = some (.int .u8 0) := ca0 2 (by decide)
  have fa03 : w5.cell? ⟨ga, 3, none⟩ = some (.int .u8 0) := ca0 3 (by decide)
  have fa04 : w5.cell? ⟨ga, 4, none⟩ = some (.int .u8 109) := ca0 4 (by decide)
  have fa05 : w5.cell? ⟨ga, 5, none⟩ = some (.slice Pa 2 pa) := ca0 5 (by decide)
  have fa06 : w5.cell? ⟨ga, 6, none⟩ = some (.string ⟨#[]⟩) := ca0 6 (by decide)
  have fa10 : w5.cell? ⟨ga, 7, none⟩ = some (.int .i64 1) := ca1 0 (by decide)
  have fa11 : w5.cell? ⟨ga, 8, none⟩ = some (.int .i32 65) := ca1 1 (by decide)
  have fa12 : w5.cell? ⟨ga, 9, none⟩ = some (.int .u8 0) := ca1 2 (by decide)
  have fa13 : w5.cell? ⟨ga, 10, none⟩ = some (.int .u8 0) := ca1 3 (by decide)
  have fa14 : w5.cell? ⟨ga, 11, none⟩ = some (.int .u8 0) := ca1 4 (by decide)
  have fa15 : w5.cell? ⟨ga, 12, none⟩ = some (.slice Pb 0 pb) := ca1 5 (by decide)
  have fa16 : w5.cell? ⟨ga, 13, none⟩ = some (.string ⟨#[]⟩) := ca1 6 (by decide)
  have fb00 : w5.cell? ⟨gb, 0, none⟩ = some (.int .i64 5) := cb0 0 (by decide)
  have fb01 : w5.cell? ⟨gb, 1, none⟩ = some (.int .i32 0) := cb0 1 (by decide)
  have fb02 : w5.cell? ⟨gb, 2, none⟩ = some (.int .u8 0) := cb0 2 (by decide)
  have fb03 : w5.cell? ⟨gb, 3, none⟩ = some (.int .u8 0) := cb0 3 (by decide)
  have fb04 : w5.cell? ⟨gb, 4, none⟩ = some (.int .u8 0) := cb0 4 (by decide)
  have fb05 : w5.cell? ⟨gb, 5, none⟩ = some (.slice Pc 0 pc) := cb0 5 (by decide)
  have fb06 : w5.cell? ⟨gb, 6, none⟩ = some (.string ⟨#[48, 59, 120]⟩) := cb0 6 (by decide)
  have fb10 : w5.cell? ⟨gb, 7, none⟩ = some (.int .i64 2) := cb1 0 (by decide)
  have fb11 : w5.cell? ⟨gb, 8, none⟩ = some (.int .i32 10) := cb1 1 (by decide)
  have fb12 : w5.cell? ⟨gb, 9, none⟩ = some (.int .u8 0) := cb1 2 (by decide)
  have fb13 : w5.cell? ⟨gb, 10, none⟩ = some (.int .u8 0) := cb1 3 (by decide)
  have fb14 : w5.cell? ⟨gb, 11, none⟩ = some (.int .u8 0) := cb1 4 (by decide)
  have fb15 : w5.cell? ⟨gb, 12, none⟩ = some (.slice Pd 0 pd) := cb1 5 (by decide)
  have fb16 : w5.cell? ⟨gb, 13, none⟩ = some (.string ⟨#[]⟩) := cb1 6 (by decide)
  have HCa := Lib.hid (show (Kd.int .i64).C w5 Pa ([1, 0] : List Int).length [1, 0] from cC)
  clear ha hb ca0 ca1 cb0 cb1 cC
  go_wp2_with fail
  refine calls_at fun W6 hW6 => ?_
  have hl6 : (Kd.int .i64).C W6 (some ⟨w5.heap.size, 0, none⟩) ([1, 0] : List Int).length [1, 0] := by
    have hg : W6.heap[w5.heap.size]? = some (.cells (([1, 0] : List Int).map (Value.int .i64)).toArray tI (0, 0)) := by rw [hW6]; exact heap_alloc_new w5 _
    exact (Kd.R_reads' (R_of_blk (k := .i64) (l := [1, 0]) (B := 0) hg (Nat.zero_le _) (by decide))).2.2
  have hb6 : Below w5.heap.size w5 W6 := by rw [hW6]; exact (Below.refl _ _).alloc (Nat.le_refl _) _
  have HS := Lib.hid (same_any (4, 0, 0, 0, 109, [1, 0], .empty) (4, 0, 0, 0, 109, [1, 0], .empty) Pa (some ⟨w5.heap.size, 0, none⟩) pa 2 W6 (Kd.C_below HCa.out hb6) hl6)
  rw [eqE_self] at HS
  have HB6 := Lib.hid (HB5.out.trans (hb6.mono HB5.out.size))
  have HP6 := Lib.hid (HP5.out.below hb6)
  have sfa00 : W6.cell? ⟨ga, 0, none⟩ = some (.int .i64 4) := (hb6.cell (p := ⟨ga, 0, none⟩) (World.block_lt_of_cell? w5 _ fa00)).trans fa00
  have sfa01 : W6.cell? ⟨ga, 1, none⟩ = some (.int .i32 0) := (hb6.cell (p := ⟨ga, 1, none⟩) (World.block_lt_of_cell? w5 _ fa01)).trans fa01
  have sfa02 : W6.cell? ⟨ga, 2, none⟩ = some (.int .u8 0) := (hb6.cell (p := ⟨ga, 2, none⟩) (World.block_lt_of_cell? w5 _ fa02)).trans fa02
  have sfa03 : W6.cell? ⟨ga, 3, none⟩ = some (.int .u8 0) := (hb6.cell (p := ⟨ga, 3, none⟩) (World.block_lt_of_cell? w5 _ fa03)).trans fa03
  have sfa04 : W6.cell? ⟨ga, 4, none⟩ = some (.int .u8 109) := (hb6.cell (p := ⟨ga, 4, none⟩) (World.block_lt_of_cell? w5 _ fa04)).trans fa04
  have sfa05 : W6.cell? ⟨ga, 5, none⟩ = some (.slice Pa 2 pa) := (hb6.cell (p := ⟨ga, 5, none⟩) (World.block_lt_of_cell? w5 _ fa05)).trans fa05
  have sfa06 : W6.cell? ⟨ga, 6, none⟩ = some (.string ⟨#[]⟩) := (hb6.cell (p := ⟨ga, 6, none⟩) (World.block_lt_of_cell? w5 _ fa06)).trans fa06
  have sfa10 : W6.cell? ⟨ga, 7, none⟩ = some (.int .i64 1) := (hb6.cell (p := ⟨ga, 7, none⟩) (World.block_lt_of_cell? w5 _ fa10)).trans fa10
  have sfa11 : W6.cell? ⟨ga, 8, none⟩ = some (.int .i32 65) := (hb6.cell (p := ⟨ga, 8, none⟩) (World.block_lt_of_cell? w5 _ fa11)).trans fa11
  have sfa12 : W6.cell? ⟨ga, 9, none⟩ = some (.int .u8 0) := (hb6.cell (p := ⟨ga, 9, none⟩) (World.block_lt_of_cell? w5 _ fa12)).trans fa12
  have sfa13 : W6.cell? ⟨ga, 10, none⟩ = some (.int .u8 0) := (hb6.cell (p := ⟨ga, 10, none⟩) (World.block_lt_of_cell? w5 _ fa13)).trans fa13
  have sfa14 : W6.cell? ⟨ga, 11, none⟩ = some (.int .u8 0) := (hb6.cell (p := ⟨ga, 11, none⟩) (World.block_lt_of_cell? w5 _ fa14)).trans fa14
  have sfa15 : W6.cell? ⟨ga, 12, none⟩ = some (.slice Pb 0 pb) := (hb6.cell (p := ⟨ga, 12, none⟩) (World.block_lt_of_cell? w5 _ fa15)).trans fa15
  have sfa16 : W6.cell? ⟨ga, 13, none⟩ = some (.string ⟨#[]⟩) := (hb6.cell (p := ⟨ga, 13, none⟩) (World.block_lt_of_cell? w5 _ fa16)).trans fa16
  have sfb00 : W6.cell? ⟨gb, 0, none⟩ = some (.int .i64 5) := (hb6.cell (p := ⟨gb, 0, none⟩) (World.block_lt_of_cell? w5 _ fb00)).trans fb00
  have sfb01 : W6.cell? ⟨gb, 1, none⟩ = some (.int .i32 0) := (hb6.cell (p := ⟨gb, 1, none⟩) (World.block_lt_of_cell? w5 _ fb01)).trans fb01
  have sfb02 : W6.cell? ⟨gb, 2, none⟩ = some (.int .u8 0) := (hb6.cell (p := ⟨gb, 2, none⟩) (World.block_lt_of_cell? w5 _ fb02)).trans fb02
  have sfb03 : W6.cell? ⟨gb, 3, none⟩ = some (.int .u8 0) := (hb6.cell (p := ⟨gb, 3, none⟩) (World.block_lt_of_cell? w5 _ fb03)).trans fb03
  have sfb04 : W6.cell? ⟨gb, 4, none⟩ = some (.int .u8 0) := (hb6.cell (p := ⟨gb, 4, none⟩) (World.block_lt_of_cell? w5 _ fb04)).trans fb04
  have sfb05 : W6.cell? ⟨gb, 5, none⟩ = some (.slice Pc 0 pc) := (hb6.cell (p := ⟨gb, 5, none⟩) (World.block_lt_of_cell? w5 _ fb05)).trans fb05
  have sfb06 : W6.cell? ⟨gb, 6, none⟩ = some (.string ⟨#[48, 59, 120]⟩) := (hb6.cell (p := ⟨gb, 6, none⟩) (World.block_lt_of_cell? w5 _ fb06)).trans fb06
  have sfb10 : W6.cell? ⟨gb, 7, none⟩ = some (.int .i64 2) := (hb6.cell (p := ⟨gb, 7, none⟩) (World.block_lt_of_cell? w5 _ fb10)).trans fb10
  have sfb11 : W6.cell? ⟨gb, 8, none⟩ = some (.int .i32 10) := (hb6.cell (p := ⟨gb, 8, none⟩) (World.block_lt_of_cell? w5 _ fb11)).trans fb11
  have sfb12 : W6.cell? ⟨gb, 9, none⟩ = some (.int .u8 0) := (hb6.cell (p := ⟨gb, 9, none⟩) (World.block_lt_of_cell? w5 _ fb12)).trans fb12
  have sfb13 : W6.cell? ⟨gb, 10, none⟩ = some (.int .u8 0) := (hb6.cell (p := ⟨gb, 10, none⟩) (World.block_lt_of_cell? w5 _ fb13)).trans fb13
  have sfb14 : W6.cell? ⟨gb, 11, none⟩ = some (.int .u8 0) := (hb6.cell (p := ⟨gb, 11, none⟩) (World.block_lt_of_cell? w5 _ fb14)).trans fb14
  have sfb15 : W6.cell? ⟨gb, 12, none⟩ = some (.slice Pd 0 pd) := (hb6.cell (p := ⟨gb, 12, none⟩) (World.block_lt_of_cell? w5 _ fb15)).trans fb15
  have sfb16 : W6.cell? ⟨gb, 13, none⟩ = some (.string ⟨#[]⟩) := (hb6.cell (p := ⟨gb, 13, none⟩) (World.block_lt_of_cell? w5 _ fb16)).trans fb16
  clear hW6 hl6 hb6 HB5 HP5 HR5 HR4b fa00 fa01 fa02 fa03 fa04 fa05 fa06 fa10 fa11 fa12 fa13 fa14 fa15 fa16 fb00 fb01 fb02 fb03 fb04 fb05 fb06 fb10 fb11 fb12 fb13 fb14 fb15 fb16
  refine HS.out.mono ?_
  rintro e w7 ⟨rfl, hb7⟩
  have HB7 := Lib.hid (HB6.out.trans (hb7.mono HB6.out.size))
  have HP7 := Lib.hid (HP6.out.below hb7)
  have tfa00 : w7.cell? ⟨ga, 0, none⟩ = some (.int .i64 4) := (hb7.cell (p := ⟨ga, 0, none⟩) (World.block_lt_of_cell? W6 _ sfa00)).trans sfa00
  have tfa01 : w7.cell? ⟨ga, 1, none⟩ = some (.int .i32 0) := (hb7.cell (p := ⟨ga, 1, none⟩) (World.block_lt_of_cell? W6 _ sfa01)).trans sfa01
  have tfa02 : w7.cell? ⟨ga, 2, none⟩ = some (.int .u8 0) := (hb7.cell (p := ⟨ga, 2, none⟩) (World.block_lt_of_cell? W6 _ sfa02)).trans sfa02
  have tfa03 : w7.cell? ⟨ga, 3, none⟩ = some (.int .u8 0) := (hb7.cell (p := ⟨ga, 3, none⟩) (World.block_lt_of_cell? W6 _ sfa03)).trans sfa03
  have tfa04 : w7.cell? ⟨ga, 4, none⟩ = some (.int .u8 109) := (hb7.cell (p := ⟨ga, 4, none⟩) (World.block_lt_of_cell? W6 _ sfa04)).trans sfa04
  have tfa05 : w7.cell? ⟨ga, 5, none⟩ = some (.slice Pa 2 pa) := (hb7.cell (p := ⟨ga, 5, none⟩) (World.block_lt_of_cell? W6 _ sfa05)).trans sfa05
  have tfa06 : w7.cell? ⟨ga, 6, none⟩ = some (.string ⟨#[]⟩) := (hb7.cell (p := ⟨ga, 6, none⟩) (World.block_lt_of_cell? W6 _ sfa06)).trans sfa06
  have tfa10 : w7.cell? ⟨ga, 7, none⟩ = some (.int .i64 1) := (hb7.cell (p := ⟨ga, 7, none⟩) (World.block_lt_of_cell? W6 _ sfa10)).trans sfa10
  have tfa11 : w7.cell? ⟨ga, 8, none⟩ = some (.int .i32 65) := (hb7.cell (p := ⟨ga, 8, none⟩) (World.block_lt_of_cell? W6 _ sfa11)).trans sfa11
  have tfa12 : w7.cell? ⟨ga, 9, none⟩ = some (.int .u8 0) := (hb7.cell (p := ⟨ga, 9, none⟩) (World.block_lt_of_cell? W6 _ sfa12)).trans sfa12
  have tfa13 : w7.cell? ⟨ga, 10, none⟩ = some (.int .u8 0) := (hb7.cell (p := ⟨ga, 10, none⟩) (World.block_lt_of_cell? W6 _ sfa13)).trans sfa13
  have tfa14 : w7.cell? ⟨ga, 11, none⟩ = some (.int .u8 0) := (hb7.cell (p := ⟨ga, 11, none⟩) (World.block_lt_of_cell? W6 _ sfa14)).trans sfa14
  have tfa15 : w7.cell? ⟨ga, 12, none⟩ = some (.slice Pb 0 pb) := (hb7.cell (p := ⟨ga, 12, none⟩) (World.block_lt_of_cell? W6 _ sfa15)).trans sfa15
  have tfa16 : w7.cell? ⟨ga, 13, none⟩ = some (.string ⟨#[]⟩) := (hb7.cell (p := ⟨ga, 13, none⟩) (World.block_lt_of_cell? W6 _ sfa16)).trans sfa16
  have tfb00 : w7.cell? ⟨gb, 0, none⟩ = some (.int .i64 5) := (hb7.cell (p := ⟨gb, 0, none⟩) (World.block_lt_of_cell? W6 _ sfb00)).trans sfb00
  have tfb01 : w7.cell? ⟨gb, 1, none⟩ = some (.int .i32 0) := (hb7.cell (p := ⟨gb, 1, none⟩) (World.block_lt_of_cell? W6 _ sfb01)).trans sfb01
  have tfb02 : w7.cell? ⟨gb, 2, none⟩ = some (.int .u8 0) := (hb7.cell (p := ⟨gb, 2, none⟩) (World.block_lt_of_cell? W6 _ sfb02)).trans sfb02
  have tfb03 : w7.cell? ⟨gb, 3, none⟩ = some (.int .u8 0) := (hb7.cell (p := ⟨gb, 3, none⟩) (World.block_lt_of_cell? W6 _ sfb03)).trans sfb03
  have tfb04 : w7.cell? ⟨gb, 4, none⟩ = some (.int .u8 0) := (hb7.cell (p := ⟨gb, 4, none⟩) (World.block_lt_of_cell? W6 _ sfb04)).trans sfb04
  have tfb05 : w7.cell? ⟨gb, 5, none⟩ = some (.slice Pc 0 pc) := (hb7.cell (p := ⟨gb, 5, none⟩) (World.block_lt_of_cell? W6 _ sfb05)).trans sfb05
  have tfb06 : w7.cell? ⟨gb, 6, none⟩ = some (.string ⟨#[48, 59, 120]⟩) := (hb7.cell (p := ⟨gb, 6, none⟩) (World.block_lt_of_cell? W6 _ sfb06)).trans sfb06
  have tfb10 : w7.cell? ⟨gb, 7, none⟩ = some (.int .i64 2) := (hb7.cell (p := ⟨gb, 7, none⟩) (World.block_lt_of_cell? W6 _ sfb10)).trans sfb10
  have tfb11 : w7.cell? ⟨gb, 8, none⟩ = some (.int .i32 10) := (hb7.cell (p := ⟨gb, 8, none⟩) (World.block_lt_of_cell? W6 _ sfb11)).trans sfb11
  have tfb12 : w7.cell? ⟨gb, 9, none⟩ = some (.int .u8 0) := (hb7.cell (p := ⟨gb, 9, none⟩) (World.block_lt_of_cell? W6 _ sfb12)).trans sfb12
  have tfb13 : w7.cell? ⟨gb, 10, none⟩ = some (.int .u8 0) := (hb7.cell (p := ⟨gb, 10, none⟩) (World.block_lt_of_cell? W6 _ sfb13)).trans sfb13
  have tfb14 : w7.cell? ⟨gb, 11, none⟩ = some (.int .u8 0) := (hb7.cell (p := ⟨gb, 11, none⟩) (World.block_lt_of_cell? W6 _ sfb14)).trans sfb14
  have tfb15 : w7.cell? ⟨gb, 12, none⟩ = some (.slice Pd 0 pd) := (hb7.cell (p := ⟨gb, 12, none⟩) (World.block_lt_of_cell? W6 _ sfb15)).trans sfb15
  have tfb16 : w7.cell? ⟨gb, 13, none⟩ = some (.string ⟨#[]⟩) := (hb7.cell (p := ⟨gb, 13, none⟩) (World.block_lt_of_cell? W6 _ sfb16)).trans sfb16
  clear hb7 HB6 HP6 sfa00 sfa01 sfa02 sfa03 sfa04 sfa05 sfa06 sfa10 sfa11 sfa12 sfa13 sfa14 sfa15 sfa16 sfb00 sfb01 sfb02 sfb03 sfb04 sfb05 sfb06 sfb10 sfb11 sfb12 sfb13 sfb14 sfb15 sfb16
  go_wp2_with fail
  refine (idle_any _ b _ _ _ _ _ _ w7 HP7.out).mono ?_
  rintro e w8 ⟨rfl, hw8⟩
  rw [hw8]
  clear hw8 w8
  go_wp2_with fail
  go_ret
  exact ⟨rfl, HB7.out⟩
end Go.Proofs.Ytbcononfgpfdbaa.An
