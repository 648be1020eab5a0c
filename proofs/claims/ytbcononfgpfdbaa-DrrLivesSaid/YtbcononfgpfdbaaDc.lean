/-
  drr: Turn, Credit, Members, begin; slices.Concat of two rows of members.
-/
import Derived.Test.YtbcononfgpfdbaaDb
import Derived.Lib.AppendZerosOnto
namespace Go.Proofs.Ytbcononfgpfdbaa.D
open Go.RowKit Go.Proofs.Ytbcononfgpfdbaa.L Go.Proofs.YtbcononfgpfdbaaW.PrintWords

def headId (L : List Mem) : Int := (L.getD 0 zM).1
set_option maxHeartbeats 800000 in
set_option maxRecDepth 100000 in
theorem turn_any (b B : Nat) (q : Int) (L : List Mem) (w : World) (h : RG b q L B w) (hq : 1 ≤ q) : Calls Try.prog 18 #[.pointer (some ⟨b, 0, none⟩)] w fun e w' => e = .returned (.tuple #[.int .u64 (if L.length = 0 then 0 else headId L), .bool (decide (0 < L.length))]) ∧ w = w' := by
  obtain ⟨A, c, hb, hc, hC, k0, k1, kf, hR, hB⟩ := h.opens
  have HM := Lib.hid (made_any b q w k0 hq)
  rcases Nat.eq_zero_or_pos L.length with hl | hl
  · rw [if_pos hl, hl, show decide (0 < 0) = false from rfl]
    rw [hl] at k1
    clear hb hC hc kf hR hB h k0 hl hq
    go_enter Try.func18, Try.ntmps18
    go_wp2_with fail
    refine HM.out.mono ?_
    rintro e w' ⟨rfl, rfl⟩
    go_wp2_with fail
    go_ret2
    exact ⟨rfl, rfl⟩
  · rw [if_neg (by omega), show decide (0 < L.length) = true from by simpa using hl]
    rcases (M_open hC).2 with e | ⟨bo, off, rfl, hbo, hcells⟩
    · subst e; simp at hl
    obtain ⟨c0, _⟩ := hcells 0 hl
    rw [Nat.zero_mul, Nat.add_zero] at c0
    have hlm := (M_open hC).1
    have t0 : ((L.length : Int) == 0) = false := beq_eq_false_iff_ne.2 (by omega)
    have t1 : decide ((0 : Int) < (L.length : Int)) = true := decide_eq_true (by omega)
    clear hb hC hc kf hR hB h k0 hq hcells
    unfold headId
    generalize (L.getD 0 zM).1 = m0 at *
    go_enter Try.func18, Try.ntmps18
    go_wp2_with fail
    refine HM.out.mono ?_
    rintro e w' ⟨rfl, rfl⟩
    go_wp2_with fail
    go_ret2
    exact ⟨rfl, rfl⟩
set_option maxHeartbeats 1600000 in
set_option maxRecDepth 100000 in
theorem credit_any (b B : Nat) (q : Int) (L : List Mem) (id : Int) (w : World) (h : RG b q L B w) (hq : 1 ≤ q) : Calls Try.prog 26 #[.pointer (some ⟨b, 0, none⟩), .int .u64 id] w fun e w' => e = .returned (.int .i64 (credP L id)) ∧ Below w.heap.size w w' := by
  obtain ⟨A, c, hb, hc, hC, k0, k1, kf, hR, hB⟩ := h.opens
  have HM := Lib.hid (made_any b q w k0 hq)
  have HG := Lib.hid h
  have HF := Lib.hid (find_any b B q L id w h)
  unfold credP
  by_cases hf : fnd id L < L.length
  · rw [if_pos hf]
    have t1 : decide (fndI id L < 0) = false := by unfold fndI; rw [if_pos hf]; simp
    have e1 : fndI id L = fnd id L := by unfold fndI; rw [if_pos hf]
    rcases (M_open hC).2 with e | ⟨bo, off, rfl, hbo, hcells⟩
    · subst e; simp at hf
    obtain ⟨_, c1⟩ := hcells _ hf
    have hlm := (M_open hC).1
    generalize (L.getD (fnd id L) zM).2 = m0 at *
    rw [e1] at HF t1
    have HE := Lib.hid e1
    clear hb hC hc kf hR hB h k0 hq hcells e1
    generalize fnd id L = k at *
    go_enter Try.func26, Try.ntmps26
    go_wp2_with fail
    refine HM.out.mono ?_
    rintro e w1 ⟨rfl, rfl⟩
    go_wp2_with fail
    refine HF.out.mono ?_
    rintro e w1 ⟨rfl, hb1⟩
    have HB := Lib.hid hb1
    have HF2 := Lib.hid (find_any b B q L id w1.drew (HG.out.below hb1.drew))
    rw [HE.out] at HF2
    have k1' : w1.cell? ⟨b, 1, none⟩ = some (.slice (some ⟨bo, off, none⟩) L.length c) := pw_cell_below hb1 k1
    have c1' : w1.cell? ⟨bo, off + k * 2 + 1, none⟩ = some (.int .i64 m0) := pw_cell_below hb1 c1
    have q1 : ∀ m : Q.GW w1.drew w1.heap.size none, m.w.cell? ⟨b, 1, none⟩ = some (.slice (some ⟨bo, off, none⟩) L.length c) := fun m => pw_cell_below (stay1 (stay0 w1) m.below) k1'
    clear hb1 k1
    go_wp2_with fail
    refine Q.wp_region_segs none [([0, 1, 2, 3, 4, 5], some 6), ([7, 8, 9, 10], none)] (by kernel_rfl) (by kernel_rfl) (by kernel_rfl) (by kernel_rfl) ?_
    dsimp only [Q.wpSegs, Q.picks, Q.pick]
    repeat (go_big_quiet_step (fail))
    refine wpQuiet_nil ?_
    go_wp2_with (go_at_call 46; refine HF2.out.mono ?_; rintro e w3 ⟨rfl, hb3⟩; (have HB3 := Lib.hid hb3); clear hb3)
    refine Q.ev_done HB3.out (Nat.le_refl _) ?_
    clear q1 k1'
    have HBW := Lib.hid (stay1 (stay1 HB.out (stay0 w1)) HB3.out)
    have q1 : ∀ m : Q.GW w3 w3.heap.size none, m.w.cell? ⟨bo, off + k * 2 + 1, none⟩ = some (.int .i64 m0) := fun m => pw_cell_below (stay1 (stay1 (stay0 w1) HB3.out) m.below) c1'
    clear c1'
    repeat (go_big_quiet_step (fail))
    refine wpQuiet_nil ?_
    refine NoPanic.normal ?_
    go_wp2
    go_ret
    exact ⟨rfl, HBW.out⟩
  · rw [if_neg hf]
    have e1 : fndI id L = -1 := by unfold fndI; rw [if_neg hf]
    rw [e1] at HF
    clear hb hC hc kf hR hB h k0 hq e1
    go_enter Try.func26, Try.ntmps26
    go_wp2_with fail
    refine HM.out.mono ?_
    rintro e w1 ⟨rfl, rfl⟩
    go_wp2_with fail
    refine HF.out.mono ?_
    rintro e w1 ⟨rfl, hb1⟩
    have HB := Lib.hid hb1
    clear hb1
    go_wp2_with fail
    go_ret
    exact ⟨rfl, HB.out⟩
end Go.Proofs.Ytbcononfgpfdbaa.D
