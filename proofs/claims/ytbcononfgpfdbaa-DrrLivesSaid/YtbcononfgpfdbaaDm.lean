/-
  drr: the document's Add and Remove.
-/
import Derived.Test.YtbcononfgpfdbaaDl
namespace Go.Proofs.Ytbcononfgpfdbaa.D
open Go.RowKit Go.Proofs.Ytbcononfgpfdbaa.L Go.Proofs.YtbcononfgpfdbaaW.PrintWords

/-- what Add's loop has, behind i rounds -/
def insY (Z : List Mem) (n : Nat) (id : Int) (i : Nat) : List Mem := if i ≤ n then Z.take i else Z.take n ++ (id, 0) :: (Z.take i).drop n
theorem insY_step {Z : List Mem} {n i : Nat} (id : Int) (hi : i < Z.length) (hn : i ≠ n) : insY Z n id (i + 1) = insY Z n id i ++ [Z.getD i zM] := by
  have e : Z.take (i + 1) = Z.take i ++ [Z.getD i zM] := by
    rw [List.take_succ_eq_append_getElem hi, List.getD_eq_getElem?_getD, List.getElem?_eq_getElem hi]
    rfl
  unfold insY
  rcases Nat.lt_or_ge i n with h | h
  · rw [if_pos (show i + 1 ≤ n from h), if_pos (Nat.le_of_lt h), e]
  · rw [if_neg (show ¬ i + 1 ≤ n from by omega), if_neg (show ¬ i ≤ n from by omega), e, List.drop_append_of_le_length (by simp; omega)]
    simp
theorem insY_at {Z : List Mem} {n : Nat} (id : Int) (hi : n < Z.length) : insY Z n id (n + 1) = insY Z n id n ++ [(id, 0)] ++ [Z.getD n zM] := by
  have e : Z.take (n + 1) = Z.take n ++ [Z.getD n zM] := by
    rw [List.take_succ_eq_append_getElem hi, List.getD_eq_getElem?_getD, List.getElem?_eq_getElem hi]
    rfl
  unfold insY
  rw [if_neg (show ¬ n + 1 ≤ n from by omega), if_pos (Nat.le_refl n), e, List.drop_append_of_le_length (by simp; omega), List.drop_of_length_le (by simp; omega)]
  simp
theorem insY_len {Z : List Mem} {n i : Nat} (id : Int) : (insY Z n id i).length ≤ Z.length + 1 := by
  unfold insY
  split
  · simp; omega
  · simp; omega

/-- both rows and the place are other ones now -/
theorem XR.puts {b B n n' : Nat} {q : Int} {Z Z' : List Mem} {w w1 : World} {v1 v2 v1' v2' : Value} {xs cs : List Int} (h : XR b q Z n B w) (hb : Below w.heap.size w w1) (hx : XB b q v1 v2 n w1) (hr1 : (Kd.int .u64).R tU w1 B (fun _ => True) v1' xs) (hr2 : (Kd.int .i64).R tI w1 B (fun _ => True) v2' cs) (e1 : xs = Z'.map (·.1)) (e2 : cs = Z'.map (·.2)) :
    XR b q Z' n' B (((w1.setCell ⟨b, 1, none⟩ v1').setCell ⟨b, 2, none⟩ v2').setCell ⟨b, 3, none⟩ (.int .i64 n')) ∧ FX B w (((w1.setCell ⟨b, 1, none⟩ v1').setCell ⟨b, 2, none⟩ v2').setCell ⟨b, 3, none⟩ (.int .i64 n')) := by
  have hB : B ≤ b := by
    obtain ⟨_, _, _, hB, _⟩ := h.ex
    exact hB
  subst e1 e2
  have x1 := hx.s1 v1'
  have x2 := x1.s2 v2'
  have x3 := x2.s3 n'
  refine ⟨⟨_, _, x3, hB, ?_, ?_⟩, (((FX.of_below hb h.base).trans (FX.set hx hB (.inl rfl))).trans (FX.set x1 hB (.inl rfl))).trans (FX.set x2 hB (.inl rfl))⟩
  · exact row_set (row_set (row_set hr1 hx (by decide)) x1 (by decide)) x2 (by decide)
  · exact row_set (row_set (row_set hr2 hx (by decide)) x1 (by decide)) x2 (by decide)
set_option maxHeartbeats 6400000 in
set_option maxRecDepth 100000 in
theorem xadd_any (b B n : Nat) (q : Int) (Z : List Mem) (id : Int) (w : World) (h : XR b q Z n B w) (hat : n < Z.length ∨ (Z = [] ∧ n = 0)) (hn : Z.length ≤ 16) :
    Calls Try.prog 20 #[.pointer (some ⟨b, 0, none⟩), .int .u64 id] w fun e w' => e = .returned (.int .i64 (addX q Z n id).1) ∧ XR b q (addX q Z n id).2.1 (addX q Z n id).2.2 B w' ∧ FX B w w' := by
  have HF := Lib.hid (xfind_any b B n q Z id w h (by omega))
  have HXR := Lib.hid h
  obtain ⟨A1, c1, A2, c2, hx, hB, h1, h2⟩ := h.opens
  obtain ⟨k0, k1, k2, k3, kf⟩ := hx.cells
  unfold addX
  by_cases hf : fnd id Z < Z.length
  · rw [if_pos hf]
    have t1 : decide ((0 : Int) ≤ fndI id Z) = true := decide_eq_true (by unfold fndI; rw [if_pos hf]; omega)
    clear hx h1 h2 k0 k1 k2 k3 kf h hB hf hat
    generalize fndI id Z = k at *
    go_enter Try.func20, Try.ntmps20
    go_wp2_with fail
    refine HF.out.mono ?_
    rintro e w1 ⟨rfl, rfl⟩
    go_wp2_with fail
    go_ret
    exact ⟨rfl, HXR.out, FX.refl _ _⟩
  rw [if_neg hf]
  have e1 : fndI id Z = -1 := by unfold fndI; rw [if_neg hf]
  rw [e1] at HF
  by_cases hfull : 16 ≤ Z.length
  · rw [if_pos hfull]
    have t2 : decide ((16 : Int) ≤ (Z.length : Int)) = true := decide_eq_true (by omega)
    clear hx h1 h2 k0 k2 k3 kf h hB hf e1 hat hfull hn
    go_enter Try.func20, Try.ntmps20
    go_wp2_with fail
    refine HF.out.mono ?_
    rintro e w1 ⟨rfl, rfl⟩
    go_wp2_with fail
    go_ret
    exact ⟨rfl, HXR.out, FX.refl _ _⟩
  rw [if_neg hfull]
  obtain ⟨RR, hRR⟩ : ∃ RR : Int × List Mem × Nat, (if Z.length = 0 then ((0 : Int), [(id, q)], 0) else (0, Z.take n ++ (id, 0) :: Z.drop n, n + 1)) = RR := ⟨_, rfl⟩
  rw [hRR]
  have HRR := Lib.hid hRR
  clear hRR
  have t2 : decide ((16 : Int) ≤ (Z.length : Int)) = false := decide_eq_false (by omega)
  have H1 := Lib.hid h1
  have H2 := Lib.hid h2
  have HX := Lib.hid hx
  clear hx h1 h2 k0 k2 k3 kf h hB hf e1 hfull
  go_enter Try.func20, Try.ntmps20
  go_wp2_with fail
  refine HF.out.mono ?_
  rintro e w1 ⟨rfl, rfl⟩
  go_wp2_with fail
  clear k1 HF t2
  go_loopg [5, 6, 7] (Z.length + 1) (fun g v5 v6 v7 w' => ∃ (i : Nat) (xs cs : List Int), v7 = .int .i64 i ∧ Hid (i ≤ Z.length ∧ Z.length < g + i) ∧ Hid (xs = (insY Z n id i).map (·.1) ∧ cs = (insY Z n id i).map (·.2)) ∧ Hid ((Kd.int .u64).R tU w' w.heap.size (fun _ => True) v5 xs) ∧ Hid ((Kd.int .i64).R tI w' w.heap.size (fun _ => True) v6 cs) ∧ Hid (Below w.heap.size w w'))
  case atStart => exact ⟨0, [], [], rfl, Lib.hid ⟨by omega, by omega⟩, Lib.hid (by simp [insY]), Lib.hid (Kd.R_nil _ _ _ _ _), Lib.hid (Kd.R_nil _ _ _ _ _), Lib.hid (Below.refl _ _)⟩
  case round =>
    obtain ⟨i, xs, cs, rfl, HJ, HS, HR1, HR2, HB⟩ := hrel
    cases gk with
    | zero => have := HJ.out; omega
    | succ k =>
      obtain ⟨A3, c3, rfl, hc3, hC3⟩ := Kd.R_reads HR1.out
      obtain ⟨A4, c4, rfl, hc4, hC4⟩ := Kd.R_reads HR2.out
      clear hC3 hc3 hC4 hc4
      have HLN := Lib.hid (show xs.length ≤ 17 ∧ cs.length ≤ 17 from by
        have := insY_len (Z := Z) (n := n) (i := i) id
        rw [HS.out.1, HS.out.2]
        simp only [List.length_map]
        omega)
      by_cases hlt : i < Z.length
      · have HJ' := Lib.hid (show i < Z.length ∧ Z.length < (k + 1) + i from ⟨hlt, HJ.out.2⟩)
        clear HJ
        by_cases hin : i = n
        rotate_left
        · have tn : ((i : Int) == (n : Int)) = false := beq_eq_false_iff_ne.2 (by omega)
          have HST := Lib.hid (insY_step id hlt hin)
          clear hin
          obtain ⟨_, k1, k2, k3, _⟩ := (show XB b q (.slice A1 Z.length c1) (.slice A2 Z.length c2) n wr from blk_below HX.out HB.out).cells
          obtain ⟨g1, rfl, _, _, hc1⟩ := row_at H1.out (by rw [List.length_map]; omega)
          obtain ⟨g2, rfl, _, _, hc2⟩ := row_at H2.out (by rw [List.length_map]; omega)
          have e0 := hc1 i (by rw [List.length_map]; exact hlt)
          have e1 := hc2 i (by rw [List.length_map]; exact hlt)
          rw [map_getD1 hlt] at e0
          rw [map_getD2 hlt] at e1
          have hg1 := World.block_lt_of_cell? w _ e0
          have hg2 := World.block_lt_of_cell? w _ e1
          have f0 := pw_cell_below HB.out e0
          have f1 := pw_cell_below HB.out e1
          have hkb := (show b < w.heap.size from HX.out.lt)
          clear hc1 hc2 e0 e1
          obtain ⟨m, hm⟩ : ∃ m : Mem, Z.getD i zM = m := ⟨_, rfl⟩
          rw [hm] at f0 f1
          have HMM := Lib.hid hm
          clear hm
          have q1 : ∀ m : Q.GW wr.drew w.heap.size none, m.w.cell? ⟨b, 1, none⟩ = some (.slice (some ⟨g1, 0, none⟩) Z.length c1) := fun m => (m.belowB (Nat.le_refl _) (fun _ h => by cases h)).cell (p := ⟨b, 1, none⟩) hkb |>.trans k1
          have q2 : ∀ m : Q.GW wr.drew w.heap.size none, m.w.cell? ⟨b, 2, none⟩ = some (.slice (some ⟨g2, 0, none⟩) Z.length c2) := fun m => (m.belowB (Nat.le_refl _) (fun _ h => by cases h)).cell (p := ⟨b, 2, none⟩) hkb |>.trans k2
          have q3 : ∀ x : Q.GW wr.drew w.heap.size none, x.w.cell? ⟨g1, i, none⟩ = some (.int .u64 m.1) := fun x => (x.belowB (Nat.le_refl _) (fun _ h => by cases h)).cell (p := ⟨g1, i, none⟩) hg1 |>.trans f0
          have q4 : ∀ x : Q.GW wr.drew w.heap.size none, x.w.cell? ⟨g2, i, none⟩ = some (.int .i64 m.2) := fun x => (x.belowB (Nat.le_refl _) (fun _ h => by cases h)).cell (p := ⟨g2, i, none⟩) hg2 |>.trans f1
          have z1 : (0 : Int) ≤ (i : Int) := by omega
          have z2 : (i : Int) < (Z.length : Int) := by omega
          go_wp2_with fail
          refine Q.wp_region_trB w.heap.size none (.two [0, 1, 2, 3, 4, 5, 6, 7, 10, 11, 12, 13, 14, 15, 16, 17] 8 (.two [] 9 (.ev [] 18 (.ev [] 19 (.done [20, 21]))) 18 (.ev [] 9 (.ev [] 19 (.done [20, 21])))) 18 (.ev [] 8 (.ev [] 9 (.ev [] 19 (.done [20, 21]))))) (by kernel_rfl) (by kernel_rfl) (by kernel_rfl) (by kernel_rfl) ?_
          refine Q.two_pre ?_
          dsimp only [Q.picks, Q.pick]
          repeat (go_big_quiet_step (fail))
          refine wpQuiet_nil ?_
          clear q1 q2 q3 q4 z1 z2 k1 k2 k3 f0 f1 hkb hg1 hg2
          refine Q.app2 48 49 58 59 39 tU 40 tI .u64 .i64 8 8 (.tmp 40) (.tmp 47) (.tmp 50) (.tmp 57) (.slice A3 xs.length c3) (.slice A4 cs.length c4) xs cs m.1 m.2 ⟨rfl, rfl, rfl⟩ ⟨rfl, rfl, rfl⟩ ⟨rfl, rfl, rfl⟩ ⟨rfl, rfl, rfl⟩ Try.underlying39 info_u64 (by decide) Try.underlying40 info_i64 (by decide) (by decide) (by rfl) (⟨Nat.le_of_ble_eq_true rfl, Nat.le_of_ble_eq_true rfl, Nat.le_of_ble_eq_true rfl, Nat.le_of_ble_eq_true rfl⟩) (by rfl) rfl rfl rfl rfl (Kd.R_below HR1.out (stay0 _)) (Kd.R_below HR2.out (stay0 _)) HB.out.size (by have := HLN.out; omega) (by have := HLN.out; omega) ?_
          intro u1 u3 v5 v6 w5 hr5 hr6 hb5
          have HR5 := Lib.hid hr5
          have HR6 := Lib.hid hr6
          have HB5 := Lib.hid ((HB.out.trans ((stay0 _).mono HB.out.size)).trans hb5)
          clear hr5 hr6 hb5
          dsimp only [Q.picks, Q.pick]
          go_simp
          repeat (go_big_quiet_step (fail))
          refine wpQuiet_nil ?_
          refine NoPanic.normal ?_
          go_wp2_with fail
          go_roundg k
          case measure => have := HJ'.out; omega
          case rel => exact ⟨i + 1, _, _, by go_num, Lib.hid (by have := HJ'.out; omega), Lib.hid (by rw [HST.out, HMM.out, HS.out.1, HS.out.2]; simp), HR5, HR6, HB5⟩
        · subst hin
          have HST := Lib.hid (insY_at id hlt)
          obtain ⟨_, k1, k2, k3, _⟩ := (show XB b q (.slice A1 Z.length c1) (.slice A2 Z.length c2) i wr from blk_below HX.out HB.out).cells
          have tn : ((i : Int) == (i : Int)) = true := by simp
          go_wp2_with (first
            | (at_builtin; refine app1 (w0 := w) .u64 w.heap.size (.tmp 33) (.tmp 35) 39 tU 8 rfl rfl Try.underlying39 info_u64 (by decide) (.slice A3 xs.length c3) xs id rfl rfl HR1.out HB.out HB.out.size (by have := HLN.out; omega) ?_; intro v5 w5 hr5 hb5 hg5; (have HRa := Lib.hid hr5); (have HBa := Lib.hid hb5); (have HRb := Lib.hid (Kd.R_over HR2.out HR1.out (by intro q hq; simp [show (Kd.int .i64).E = [] from rfl] at hq; subst hq; decide) hg5)); clear hr5 hb5 hg5)
            | (at_builtin; refine app1 (w0 := w) .i64 w.heap.size (.tmp 37) (.tmp 38) 40 tI 8 rfl rfl Try.underlying40 info_i64 (by decide) (.slice A4 cs.length c4) cs 0 rfl rfl HRb.out HBa.out HBa.out.size (by have := HLN.out; omega) ?_; intro v6 w6 hr6 hb6 hg6; (have HRc := Lib.hid hr6); (have HBc := Lib.hid hb6); (have HRd := Lib.hid (Kd.R_over HRa.out HRb.out (by intro q hq; simp [show (Kd.int .u64).E = [] from rfl] at hq; subst hq; decide) hg6)); clear hr6 hb6 hg6))
          clear k1 k2 k3 tn
          obtain ⟨xs5, hxs5⟩ : ∃ xs5, xs ++ [id] = xs5 := ⟨_, rfl⟩
          obtain ⟨cs5, hcs5⟩ : ∃ cs5, cs ++ [(0 : Int)] = cs5 := ⟨_, rfl⟩
          rw [hxs5] at HRd
          rw [hcs5] at HRc
          have HXS := Lib.hid hxs5
          have HCS := Lib.hid hcs5
          have HL5 := Lib.hid (show xs5.length ≤ 18 ∧ cs5.length ≤ 18 from by rw [← hxs5, ← hcs5]; simp; have := HLN.out; omega)
          clear hxs5 hcs5 HRa HRb HBa HR1 HR2
          obtain ⟨A5, c5, rfl, hc5, hC5⟩ := Kd.R_reads HRd.out
          obtain ⟨A6, c6, rfl, hc6, hC6⟩ := Kd.R_reads HRc.out
          clear hc5 hC5 hc6 hC6
          obtain ⟨_, k1, k2, k3, _⟩ := (show XB b q (.slice A1 Z.length c1) (.slice A2 Z.length c2) i w6 from blk_below HX.out HBc.out).cells
          obtain ⟨g1, rfl, _, _, hc1⟩ := row_at H1.out (by rw [List.length_map]; omega)
          obtain ⟨g2, rfl, _, _, hc2⟩ := row_at H2.out (by rw [List.length_map]; omega)
          have e0 := hc1 i (by rw [List.length_map]; exact hlt)
          have e1 := hc2 i (by rw [List.length_map]; exact hlt)
          rw [map_getD1 hlt] at e0
          rw [map_getD2 hlt] at e1
          have hg1 := World.block_lt_of_cell? w _ e0
          have hg2 := World.block_lt_of_cell? w _ e1
          have f0 := pw_cell_below HBc.out e0
          have f1 := pw_cell_below HBc.out e1
          have hkb := (show b < w.heap.size from HX.out.lt)
          clear hc1 hc2 e0 e1
          obtain ⟨m, hm⟩ : ∃ m : Mem, Z.getD i zM = m := ⟨_, rfl⟩
          rw [hm] at f0 f1
          have HMM := Lib.hid hm
          clear hm
          have q1 : ∀ m : Q.GW w6.drew w.heap.size none, m.w.cell? ⟨b, 1, none⟩ = some (.slice (some ⟨g1, 0, none⟩) Z.length c1) := fun m => (m.belowB (Nat.le_refl _) (fun _ h => by cases h)).cell (p := ⟨b, 1, none⟩) hkb |>.trans k1
          have q2 : ∀ m : Q.GW w6.drew w.heap.size none, m.w.cell? ⟨b, 2, none⟩ = some (.slice (some ⟨g2, 0, none⟩) Z.length c2) := fun m => (m.belowB (Nat.le_refl _) (fun _ h => by cases h)).cell (p := ⟨b, 2, none⟩) hkb |>.trans k2
          have q3 : ∀ x : Q.GW w6.drew w.heap.size none, x.w.cell? ⟨g1, i, none⟩ = some (.int .u64 m.1) := fun x => (x.belowB (Nat.le_refl _) (fun _ h => by cases h)).cell (p := ⟨g1, i, none⟩) hg1 |>.trans f0
          have q4 : ∀ x : Q.GW w6.drew w.heap.size none, x.w.cell? ⟨g2, i, none⟩ = some (.int .i64 m.2) := fun x => (x.belowB (Nat.le_refl _) (fun _ h => by cases h)).cell (p := ⟨g2, i, none⟩) hg2 |>.trans f1
          have z1 : (0 : Int) ≤ (i : Int) := by omega
          have z2 : (i : Int) < (Z.length : Int) := by omega
          refine Q.wp_region_trB w.heap.size none (.two [0, 1, 2, 3, 4, 5, 6, 7, 10, 11, 12, 13, 14, 15, 16, 17] 8 (.two [] 9 (.ev [] 18 (.ev [] 19 (.done [20, 21]))) 18 (.ev [] 9 (.ev [] 19 (.done [20, 21])))) 18 (.ev [] 8 (.ev [] 9 (.ev [] 19 (.done [20, 21]))))) (by kernel_rfl) (by kernel_rfl) (by kernel_rfl) (by kernel_rfl) ?_
          refine Q.two_pre ?_
          dsimp only [Q.picks, Q.pick]
          repeat (go_big_quiet_step (fail))
          refine wpQuiet_nil ?_
          clear q1 q2 q3 q4 z1 z2 k1 k2 k3 f0 f1 hkb hg1 hg2
          refine Q.app2 48 49 58 59 39 tU 40 tI .u64 .i64 8 8 (.tmp 40) (.tmp 47) (.tmp 50) (.tmp 57) (.slice A5 xs5.length c5) (.slice A6 cs5.length c6) xs5 cs5 m.1 m.2 ⟨rfl, rfl, rfl⟩ ⟨rfl, rfl, rfl⟩ ⟨rfl, rfl, rfl⟩ ⟨rfl, rfl, rfl⟩ Try.underlying39 info_u64 (by decide) Try.underlying40 info_i64 (by decide) (by decide) (by rfl) (⟨Nat.le_of_ble_eq_true rfl, Nat.le_of_ble_eq_true rfl, Nat.le_of_ble_eq_true rfl, Nat.le_of_ble_eq_true rfl⟩) (by rfl) rfl rfl rfl rfl (Kd.R_below HRd.out (stay0 _)) (Kd.R_below HRc.out (stay0 _)) HBc.out.size (by have := HL5.out; omega) (by have := HL5.out; omega) ?_
          intro u1 u3 v5 v6 w5 hr5 hr6 hb5
          have HR5 := Lib.hid hr5
          have HR6 := Lib.hid hr6
          have HB5 := Lib.hid ((HBc.out.trans ((stay0 _).mono HBc.out.size)).trans hb5)
          clear hr5 hr6 hb5
          dsimp only [Q.picks, Q.pick]
          go_simp
          repeat (go_big_quiet_step (fail))
          refine wpQuiet_nil ?_
          refine NoPanic.normal ?_
          go_wp2_with fail
          go_roundg k
          case measure => have := HJ'.out; omega
          case rel => exact ⟨i + 1, _, _, by go_num, Lib.hid (by have := HJ'.out; omega), Lib.hid (by rw [HST.out, HMM.out, ← HXS.out, ← HCS.out, HS.out.1, HS.out.2]; simp), HR5, HR6, HB5⟩
      · have hi : i = Z.length := by have := HJ.out; omega
        subst hi
        clear HJ hlt
        obtain ⟨k0, k1, k2, k3, kf⟩ := (show XB b q (.slice A1 Z.length c1) (.slice A2 Z.length c2) n wr from blk_below HX.out HB.out).cells
        have f1 := kf 1
        have f2 := kf 2
        have f3 := kf 3
        clear kf
        by_cases hz : Z.length = 0
        · have HZ := Lib.hid hz
          have t3 : ((Z.length : Int) == 0) = true := by rw [hz]; rfl
          have hb5 : Below wr.heap.size wr (wr.alloc (.cells #[.int .u64 id] tU)) := (Below.refl _ _).alloc (Nat.le_refl _) _
          have hb6 : Below wr.heap.size wr ((wr.alloc (.cells #[.int .u64 id] tU)).alloc (.cells #[.int .i64 q] tI)) := stay1 hb5 ((Below.refl _ _).alloc (Nat.le_refl _) _)
          have k5 := pw_cell_below hb5 k0
          have HX6 := Lib.hid (show XB b q (.slice A1 Z.length c1) (.slice A2 Z.length c2) n ((wr.alloc (.cells #[.int .u64 id] tU)).alloc (.cells #[.int .i64 q] tI)) from blk_below HX.out (HB.out.trans (hb6.mono HB.out.size)))
          obtain ⟨_, m1, m2, m3, mf⟩ := HX6.out.cells
          have f1 := mf 1
          have f2 := mf 2
          have f3 := mf 3
          have HB6 := Lib.hid hb6
          have HN1 := Lib.hid (show (Kd.int .u64).R tU ((wr.alloc (.cells #[.int .u64 id] tU)).alloc (.cells #[.int .i64 q] tI)) B (fun _ => True) (.slice (some ⟨wr.heap.size, 0, none⟩) 1 1) [id] from
            R_of_blk (l := [id]) (blk_alloc (heap_alloc_new wr _) _) (Nat.le_trans HXR.out.base HB.out.size) (show 1 ≤ maxLen from by decide))
          have HN2 := Lib.hid (show (Kd.int .i64).R tI ((wr.alloc (.cells #[.int .u64 id] tU)).alloc (.cells #[.int .i64 q] tI)) B (fun _ => True) (.slice (some ⟨wr.heap.size + 1, 0, none⟩) 1 1) [q] from by
            have := R_of_blk (k := .i64) (l := [q]) (B := B) (heap_alloc_new (wr.alloc (.cells #[.int .u64 id] tU)) (.cells #[.int .i64 q] tI)) (by have := HXR.out.base; have := HB.out.size; simp; omega) (show 1 ≤ maxLen from by decide)
            simpa using this)
          clear hz hb5 hb6 mf
          go_wp2_with fail
          go_ret
          obtain ⟨hp1, hp2⟩ := XR.puts HXR.out (HB.out.trans (HB6.out.mono HB.out.size)) HX6.out HN1.out HN2.out (Z' := [(id, q)]) (n' := 0) rfl rfl
          rw [← HRR.out, if_pos HZ.out]
          exact ⟨rfl, hp1, hp2⟩
        · have HZ := Lib.hid hz
          have t3 : ((Z.length : Int) == 0) = false := beq_eq_false_iff_ne.2 (by omega)
          have hat' : n < Z.length := by
            rcases hat with h | ⟨h, _⟩
            · exact h
            · subst h; simp at hz
          have s1 : IntKind.i64.wrap ((n : Int) + 1) = (n : Int) + 1 := IntWalk.i64_in _ (by omega)
          have HAT := Lib.hid hat'
          clear hz hat'
          go_wp2_with fail
          go_ret
          have hY : insY Z n id Z.length = Z.take n ++ (id, 0) :: Z.drop n := by
            unfold insY
            rw [if_neg (by have := HAT.out; omega), List.take_length]
          have hr1 := HR1.out
          have hr2 := HR2.out
          have hS := HS.out
          rw [hY] at hS
          obtain ⟨hp1, hp2⟩ := XR.puts HXR.out HB.out (show XB b q (.slice A1 Z.length c1) (.slice A2 Z.length c2) n wr from blk_below HX.out HB.out) (Kd.R_lower hr1 HXR.out.base) (Kd.R_lower hr2 HXR.out.base) (Z' := Z.take n ++ (id, 0) :: Z.drop n) (n' := n + 1) hS.1 hS.2
          have hz : ¬ Z.length = 0 := by have := HAT.out; omega
          rw [← HRR.out, if_neg hz]
          exact ⟨rfl, hp1, hp2⟩
end Go.Proofs.Ytbcononfgpfdbaa.D
