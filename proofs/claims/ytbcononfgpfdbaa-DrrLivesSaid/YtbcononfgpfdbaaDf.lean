/-
  drr: Remove and Spend.
-/
import Derived.Test.YtbcononfgpfdbaaDe
namespace Go.Proofs.Ytbcononfgpfdbaa.D
open Go.RowKit Go.Proofs.Ytbcononfgpfdbaa.L Go.Proofs.YtbcononfgpfdbaaW.PrintWords

theorem RG.base {b B : Nat} {q : Int} {L : List Mem} {w : World} (h : RG b q L B w) : B ≤ w.heap.size := by
  have := h.lt
  obtain ⟨_, _, h, _⟩ := h
  omega
theorem small_take {L : List Mem} (h : small L) (n : Nat) : small (L.take n) := fun m hm => h m (List.mem_of_mem_take hm)
theorem small_drop {L : List Mem} (h : small L) (n : Nat) : small (L.drop n) := fun m hm => h m (List.mem_of_mem_drop hm)
theorem small_app {L L' : List Mem} (h : small L) (h' : small L') : small (L ++ L') := fun m hm => (List.mem_append.1 hm).elim (h m) (h' m)
theorem arg2 (W : World) (v1 v2 : Value) : (W.alloc (.cells #[v1, v2] 47)).heap[W.heap.size]? = some (.cells #[v1, v2] 47 (0, 0)) := heap_alloc_new W _

set_option maxHeartbeats 1600000 in
set_option maxRecDepth 100000 in
theorem remove_any (b B : Nat) (q : Int) (L : List Mem) (id : Int) (w : World) (h : RG b q L B w) (hq : 1 ≤ q ∧ q ≤ 65536) (hn : L.length ≤ 16) (hs : small L) :
    Calls Try.prog 21 #[.pointer (some ⟨b, 0, none⟩), .int .u64 id] w fun e w' => e = .returned (.int .i64 (remP q L id).1) ∧ RG b q (remP q L id).2 B w' ∧ FR B w w' := by
  obtain ⟨A, c, hb, hc, hC, k0, k1, kf, hR, hB⟩ := h.opens
  have HM := Lib.hid (made_any b q w k0 hq.1)
  have HG := Lib.hid h
  have HF := Lib.hid (find_any b B q L id w h)
  unfold remP
  by_cases hf : fnd id L < L.length
  rotate_left
  · rw [if_neg hf]
    have e1 : fndI id L = -1 := by unfold fndI; rw [if_neg hf]
    rw [e1] at HF
    clear hb hC hc kf hR hB h k0 hq hf e1
    go_enter Try.func21, Try.ntmps21
    go_wp2_with fail
    refine HM.out.mono ?_
    rintro e w1 ⟨rfl, rfl⟩
    go_wp2_with fail
    refine HF.out.mono ?_
    rintro e w1 ⟨rfl, hb1⟩
    have HB := Lib.hid hb1
    clear hb1 k1
    go_wp2_with fail
    go_ret
    exact ⟨rfl, HG.out.below HB.out, FR.of_below HB.out HG.out.base⟩
  rw [if_pos hf]
  have e1 : fndI id L = fnd id L := by unfold fndI; rw [if_pos hf]
  rw [e1] at HF
  obtain ⟨k, hk⟩ : ∃ k, fnd id L = k := ⟨_, rfl⟩
  rw [hk] at HF hf ⊢
  have t1 : decide ((k : Int) < 0) = false := decide_eq_false (by omega)
  obtain ⟨A1, c1, hcut1, hr1⟩ := cutfM A L.length c (k + 1) (by omega) hc
  obtain ⟨hcut2, hr2⟩ := cuttM A L.length c k (by omega) hc
  rw [show (((k + 1 : Nat) : Int)) = (k : Int) + 1 from by omega] at hcut1
  have HC := Lib.hid hC
  have HR1 := Lib.hid hr1
  have HR2 := Lib.hid hr2
  have HK := Lib.hid hf
  have HL := Lib.hid hn
  have HS := Lib.hid hs
  have HQ := Lib.hid hq
  have hk63 : (k : Int) ≤ 1000000 := by omega
  clear hb hC hc kf hR hB h k0 hq hf e1 hn hs hr1 hr2 hk
  go_enter Try.func21, Try.ntmps21
  go_wp2_with fail
  refine HM.out.mono ?_
  rintro e w1 ⟨rfl, rfl⟩
  go_wp2_with fail
  refine HF.out.mono ?_
  rintro e w1 ⟨rfl, hb1⟩
  have HB := Lib.hid hb1
  have k1' := pw_cell_below hb1 k1
  clear hb1 k1 HM HF
  go_wp2_with fail
  have q1 : ∀ m : Q.GW w1.drew w1.heap.size none, m.w.cell? ⟨b, 1, none⟩ = some (.slice A L.length c) := fun m => pw_cell_below (stay1 (stay0 w1) m.below) k1'
  have s1 : IntKind.i64.wrap ((k : Int) + 1) = (k : Int) + 1 := IntWalk.i64_in _ (by omega)
  refine Q.wp_region_segsF none [([0, 1, 2, 3, 4, 5, 6, 7, 8, 9, 10, 11, 12, 13], some 14), ([], some 15)] [16, 17] 18 (by kernel_rfl) (by kernel_rfl) (by kernel_rfl) (by kernel_rfl) ?_
  dsimp only [Q.wpSegsF, Q.picks, Q.pick]
  repeat (go_big_quiet_step (fail))
  refine wpQuiet_nil ?_
  clear q1 s1 hcut1 hcut2
  go_wp2_with fail
  refine Q.ev_done ((Below.refl _ _).alloc (Nat.le_refl _) _) (Nat.le_refl _) ?_
  refine wpQuiet_nil ?_
  have HB2 := Lib.hid (show Below w.heap.size w (w1.drew.alloc (.cells #[.slice A k c, .slice A1 (L.length - (k + 1)) c1] 47)) from stay1 (stay1 HB.out (stay0 w1)) ((Below.refl _ _).alloc (Nat.le_refl _) _))
  have HCC := Lib.hid (concat_any (L.take k) (L.drop (k + 1)) A A1 c c1 w1.drew.heap.size k (L.length - (k + 1)) _ (arg2 w1.drew (.slice A k c) (.slice A1 (L.length - (k + 1)) c1)) (HR2.out _ L (Kd.C_below HC.out HB2.out)) (HR1.out _ L (Kd.C_below HC.out HB2.out)) (by have := HL.out; omega))
  go_wp2_with (go_at_call 48; refine HCC.out.mono ?_; rintro e w3 ⟨v3, rfl, hr3, hg3⟩; (have HR3 := Lib.hid hr3); (have HG3 := Lib.hid hg3); clear hr3 hg3)
  refine Q.ev_done HG3.out (by simp) ?_
  have HB3 := Lib.hid (stay1 HB2.out HG3.out)
  clear HG3 k1' HCC
  obtain ⟨A3, c3, hv3, hc3, hC3⟩ := Kd.R_reads HR3.out
  obtain ⟨n3, hn3⟩ : ∃ n3, (L.take k ++ L.drop (k + 1)).length = n3 := ⟨_, rfl⟩
  rw [hn3] at hv3
  subst hv3
  have HN3 := Lib.hid hn3
  clear hC3 hc3 hn3
  repeat (go_big_quiet_step (fail))
  refine wpQuiet_nil ?_
  have HG3 := Lib.hid (HG.out.below HB3.out)
  obtain ⟨_, _, hb3, _, _, _, r1, f3, _⟩ := HG3.out.opens
  have g1 := f3 1
  clear hb3 f3
  go_wp2
  refine NoPanic.normal ?_
  clear r1 g1
  obtain ⟨HP1, HP2⟩ := RG.put HG.out HB3.out HR3.out (Nat.le_trans HG.out.base HB2.out.size)
  obtain ⟨w4, hw4⟩ : ∃ w4, w4 = w3.setCell ⟨b, 1, none⟩ (.slice A3 n3 c3) := ⟨_, rfl⟩
  rw [← hw4] at HP1 HP2 ⊢
  clear hw4
  have HP1 := Lib.hid HP1
  have HP2 := Lib.hid HP2
  clear HR3 HG3 HB HB3 HB2 HC
  by_cases hz : k = 0
  · have t3 : ((k : Int) == 0) = true := by simp; omega
    have HBG := Lib.hid (begin_any b B q _ w4 HP1.out ⟨by have := HQ.out; omega, HQ.out.2⟩ (small_app (small_take HS.out _) (small_drop HS.out _)))
    have HZ := Lib.hid hz
    clear hz
    go_wp2_with fail
    refine HBG.out.mono ?_
    rintro e w5 ⟨⟨v5, rfl⟩, hg5, hf5⟩
    have HG5 := Lib.hid hg5
    have HF5 := Lib.hid hf5
    clear hg5 hf5 HBG
    go_wp2_with fail
    go_ret
    have hz := HZ.out
    subst hz
    refine ⟨rfl, ?_, HP2.out.trans HF5.out⟩
    have := HG5.out
    simpa using this
  · have t3 : ((k : Int) == 0) = false := beq_eq_false_iff_ne.2 (by omega)
    have HZ := Lib.hid hz
    clear hz
    go_wp2_with fail
    go_ret
    have hz := HZ.out
    exact ⟨rfl, by simpa [hz] using HP1.out, HP2.out⟩

set_option maxHeartbeats 1600000 in
set_option maxRecDepth 100000 in
theorem spend_any (b B : Nat) (q : Int) (L : List Mem) (cost : Int) (w : World) (h : RG b q L B w) (hq : 1 ≤ q ∧ q ≤ 65536) (hn : L.length ≤ 16) (hs : small L) :
    Calls Try.prog 19 #[.pointer (some ⟨b, 0, none⟩), .int .i64 cost] w fun e w' => e = .returned (.tuple #[.bool (spendP q L cost).1, .int .i64 (spendP q L cost).2.1]) ∧ RG b q (spendP q L cost).2.2 B w' ∧ FR B w w' := by
  obtain ⟨A, c, hb, hc, hC, k0, k1, kf, hR, hB⟩ := h.opens
  have HM := Lib.hid (made_any b q w k0 hq.1)
  have HG := Lib.hid h
  unfold spendP
  by_cases hcst : cost < 1 ∨ 65536 < cost
  · rw [if_pos hcst]
    rcases hcst with hcst | hcst
    · have t1 : decide (cost < 1) = true := decide_eq_true hcst
      clear hb hC hc kf hR hB h k0 k1 hq hcst
      go_enter Try.func19, Try.ntmps19
      go_wp2_with fail
      refine HM.out.mono ?_
      rintro e w1 ⟨rfl, rfl⟩
      go_wp2_with fail
      go_ret2
      exact ⟨rfl, HG.out, FR.refl _ _⟩
    · have t1 : decide (cost < 1) = false := decide_eq_false (by omega)
      have t2 : decide (65536 < cost) = true := decide_eq_true hcst
      clear hb hC hc kf hR hB h k0 k1 hq hcst
      go_enter Try.func19, Try.ntmps19
      go_wp2_with fail
      refine HM.out.mono ?_
      rintro e w1 ⟨rfl, rfl⟩
      go_wp2_with fail
      go_ret2
      exact ⟨rfl, HG.out, FR.refl _ _⟩
  rw [if_neg hcst]
  have t1 : decide (cost < 1) = false := decide_eq_false (by omega)
  have t2 : decide (65536 < cost) = false := decide_eq_false (by omega)
  cases L with
  | nil =>
    clear hb hC hc kf hR hB h k0 hq hcst
    go_enter Try.func19, Try.ntmps19
    go_wp2_with fail
    refine HM.out.mono ?_
    rintro e w1 ⟨rfl, rfl⟩
    go_wp2_with fail
    go_ret2
    exact ⟨rfl, HG.out, FR.refl _ _⟩
  | cons m r =>
    dsimp only
    obtain ⟨g, c', cs, hv, hBg, hbg, c0, c1, hset⟩ := R_head hR
    injection hv with hA hnn hcc
    subst hA hcc
    have hm := hs m (by simp)
    have t3 : (((m :: r).length : Int) == 0) = false := beq_eq_false_iff_ne.2 (by simp; omega)
    have z1 : (0 : Int) < ((m :: r).length : Int) := by simp
    by_cases hcm : cost ≤ m.2
    · rw [if_pos hcm]
      have t4 : decide (cost ≤ m.2) = true := decide_eq_true hcm
      have HBk := Lib.hid hb
      have HBg := Lib.hid hbg
      have HBB := Lib.hid hB
      have HBBg := Lib.hid hBg
      have HSet := Lib.hid hset
      have fg := blk_frozen hbg 1
      have u1 : 1 ≤ cost ∧ cost ≤ 65536 := by omega
      have hlm := (M_open hC).1
      clear hb hC hc kf hR hB h k0 hq hcst hbg hset hBg hnn hs hcm hn
      generalize (m :: r).length = n at *
      go_enter Try.func19, Try.ntmps19
      go_wp2_with fail
      refine HM.out.mono ?_
      rintro e w1 ⟨rfl, rfl⟩
      go_wp2_with fail
      go_ret2
      have hne : b ≠ g := blk_ne HBk.out HBg.out (by decide)
      exact ⟨rfl, ⟨_, blk_far (p := ⟨g, 1, none⟩) HBk.out hne _, HBB.out, HSet.out (m.2 - cost)⟩, FR.set HBg.out HBBg.out (.inr rfl)⟩
    · rw [if_neg hcm]
      have t4 : decide (cost ≤ m.2) = false := decide_eq_false hcm
      have hpos : 1 ≤ (m :: r).length := by simp
      obtain ⟨A1, c1', hcut1, hr1⟩ := cutfM (some ⟨g, 0, none⟩) (m :: r).length c 1 hpos hc
      obtain ⟨hcut2, hr2⟩ := cuttM (some ⟨g, 0, none⟩) (m :: r).length c 1 hpos hc
      rw [show (((1 : Nat) : Int)) = 1 from rfl] at hcut1 hcut2
      have HC := Lib.hid hC
      have HR1 := Lib.hid hr1
      have HR2 := Lib.hid hr2
      have HL := Lib.hid hn
      have HS := Lib.hid hs
      have HQ := Lib.hid hq
      have hlm := (M_open hC).1
      clear hb hC hc kf hR hB h k0 hq hcst hbg hset hBg hnn hs hcm hn hr1 hr2
      obtain ⟨n, hn⟩ : ∃ n, (m :: r).length = n := ⟨_, rfl⟩
      rw [hn] at HC HR1 HR2 HL hlm k1 t3 z1 hcut1 hcut2 hpos
      have HN := Lib.hid hn
      clear hn
      go_enter Try.func19, Try.ntmps19
      go_wp2_with fail
      refine HM.out.mono ?_
      rintro e w1 ⟨rfl, rfl⟩
      go_wp2_with fail
      have q1 : ∀ x : Q.GW w.drew w.heap.size none, x.w.cell? ⟨b, 1, none⟩ = some (.slice (some ⟨g, 0, none⟩) n c) := fun m => pw_cell_below (stay1 (stay0 w) m.below) k1
      refine Q.wp_region_segsF none [([0, 1, 2, 3, 4, 5, 6, 7, 8, 9, 10], some 11), ([], some 12)] [13, 14] 15 (by kernel_rfl) (by kernel_rfl) (by kernel_rfl) (by kernel_rfl) ?_
      dsimp only [Q.wpSegsF, Q.picks, Q.pick]
      repeat (go_big_quiet_step (fail))
      refine wpQuiet_nil ?_
      clear q1 hcut1 hcut2
      go_wp2_with fail
      refine Q.ev_done ((Below.refl _ _).alloc (Nat.le_refl _) _) (Nat.le_refl _) ?_
      refine wpQuiet_nil ?_
      have HB2 := Lib.hid (show Below w.heap.size w (w.drew.alloc (.cells #[.slice A1 (n - 1) c1', .slice (some ⟨g, 0, none⟩) 1 c] 47)) from stay1 (stay0 w) ((Below.refl _ _).alloc (Nat.le_refl _) _))
      have HCC := Lib.hid (concat_any ((m :: r).drop 1) ((m :: r).take 1) A1 (some ⟨g, 0, none⟩) c1' c w.drew.heap.size (n - 1) 1 _ (arg2 w.drew (.slice A1 (n - 1) c1') (.slice (some ⟨g, 0, none⟩) 1 c)) (HR1.out _ _ (Kd.C_below HC.out HB2.out)) (HR2.out _ _ (Kd.C_below HC.out HB2.out)) (by have := HL.out; omega))
      go_wp2_with (go_at_call 48; refine HCC.out.mono ?_; rintro e w3 ⟨v3, rfl, hr3, hg3⟩; (have HR3 := Lib.hid hr3); (have HG3 := Lib.hid hg3); clear hr3 hg3)
      refine Q.ev_done HG3.out (by simp) ?_
      have HB3 := Lib.hid (stay1 HB2.out HG3.out)
      clear HG3 k1 HCC
      obtain ⟨A3, c3, hv3, hc3, hC3⟩ := Kd.R_reads HR3.out
      obtain ⟨n3, hn3⟩ : ∃ n3, ((m :: r).drop 1 ++ (m :: r).take 1).length = n3 := ⟨_, rfl⟩
      rw [hn3] at hv3
      subst hv3
      have HN3 := Lib.hid hn3
      clear hC3 hc3 hn3
      repeat (go_big_quiet_step (fail))
      refine wpQuiet_nil ?_
      have HG3 := Lib.hid (HG.out.below HB3.out)
      obtain ⟨_, _, hb3, _, _, _, r1, f3, _⟩ := HG3.out.opens
      have g1 := f3 1
      clear hb3 f3
      go_wp2
      refine NoPanic.normal ?_
      clear r1 g1
      obtain ⟨HP1, HP2⟩ := RG.put HG.out HB3.out HR3.out (Nat.le_trans HG.out.base HB2.out.size)
      obtain ⟨w4, hw4⟩ : ∃ w4, w4 = w3.setCell ⟨b, 1, none⟩ (.slice A3 n3 c3) := ⟨_, rfl⟩
      rw [← hw4] at HP1 HP2 ⊢
      clear hw4
      have HP1 := Lib.hid HP1
      have HP2 := Lib.hid HP2
      clear HR3 HG3 HB3 HB2 HC
      have HBG := Lib.hid (begin_any b B q _ w4 HP1.out ⟨by have := HQ.out; omega, HQ.out.2⟩ (small_app (small_drop HS.out _) (small_take HS.out _)))
      go_wp2_with fail
      refine HBG.out.mono ?_
      rintro e w5 ⟨⟨v5, rfl⟩, hg5, hf5⟩
      have HG5 := Lib.hid hg5
      have HF5 := Lib.hid hf5
      clear hg5 hf5 HBG
      go_wp2_with fail
      go_ret2
      refine ⟨rfl, ?_, HP2.out.trans HF5.out⟩
      have := HG5.out
      simpa using this
end Go.Proofs.Ytbcononfgpfdbaa.D
