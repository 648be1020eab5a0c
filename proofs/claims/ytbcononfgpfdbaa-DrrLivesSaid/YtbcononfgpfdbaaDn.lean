/-
  drr: the document's Remove and Spend.
-/
import Derived.Test.YtbcononfgpfdbaaDm
namespace Go.Proofs.Ytbcononfgpfdbaa.D
open Go.RowKit Go.Proofs.Ytbcononfgpfdbaa.L Go.Proofs.YtbcononfgpfdbaaW.PrintWords

theorem bump_set {x : Int} {k : Nat} {Z : List Mem} (h : k < Z.length) : (bump x k Z).map (·.2) = (Z.map (·.2)).set k ((Z.getD k zM).2 + x) := by
  obtain ⟨A, B, rfl, hA⟩ := split Z k (by omega)
  cases B with
  | nil => simp at h; omega
  | cons m B =>
    rw [bump_app x hA]
    subst hA
    simp [beg, List.set_append]
/-- a turn begins, or is spent of: the credit at k -/
theorem XR.bump {b B n : Nat} {q : Int} {Z : List Mem} {w : World} (h : XR b q Z n B w) {k : Nat} (hk : k < Z.length) :
    ∃ A1 c1 g c2 cs, XB b q (.slice A1 Z.length c1) (.slice (some ⟨g, 0, none⟩) Z.length c2) n w ∧ w.heap[g]? = some (.cells cs tI (0, 0)) ∧ w.cell? ⟨g, k, none⟩ = some (.int .i64 (Z.getD k zM).2) ∧
      ∀ x, XR b q (D.bump x k Z) n B (w.setCell ⟨g, k, none⟩ (.int .i64 ((Z.getD k zM).2 + x))) ∧ FX B w (w.setCell ⟨g, k, none⟩ (.int .i64 ((Z.getD k zM).2 + x))) := by
  obtain ⟨A1, c1, A2, c2, hx, hB, h1, h2⟩ := h.opens
  obtain ⟨g, rfl, hBg, ⟨cs, hb⟩, hc⟩ := row_at h2 (by rw [List.length_map]; omega)
  have c0 := hc k (by rw [List.length_map]; exact hk)
  rw [map_getD2 hk] at c0
  refine ⟨A1, c1, g, c2, cs, hx, hb, c0, fun x => ⟨⟨_, _, blk_far (p := ⟨g, k, none⟩) hx (blk_ne hx hb (by decide)) _, hB, ?_, ?_⟩, FX.set hb hBg (.inr rfl)⟩⟩
  · rw [bump_ids]
    exact Kd.R_set h1 hb (by intro q hq; simp [show (Kd.int .u64).E = [] from rfl] at hq; subst hq; decide) k _
  · rw [bump_set hk]
    have hl : Z.length = (Z.map (·.2)).length := by rw [List.length_map]
    have hp := Kd.R_put (show (Kd.int .i64).R tI w B (fun _ => True) (.slice (some ⟨g, 0, none⟩) (Z.map (·.2)).length c2) (Z.map (·.2)) from hl ▸ h2) (k : Int) ((Z.getD k zM).2 + x)
    rw [← hl] at hp
    exact hp.1

theorem XR_drew {b B n : Nat} {q : Int} {Z : List Mem} {w : World} {p : Addr} {u : Value} (h : XR b q Z n B (w.setCell p u)) : XR b q Z n B (w.drew.setCell p u) := by
  obtain ⟨v1, v2, h1, h2, h3, h4⟩ := h.ex
  exact ⟨v1, v2, h1, h2, Kd.R_step h3 (fun _ _ _ => rfl), Kd.R_step h4 (fun _ _ _ => rfl)⟩
theorem FX_drew {B : Nat} {w : World} {p : Addr} {u : Value} (h : FX B w (w.setCell p u)) : FX B w (w.drew.setCell p u) := ⟨h.os, h.tape, h.output, h.size, h.low, h.typ⟩
/-- what Remove's loop has, behind i rounds -/
def rmY (Z : List Mem) (p i : Nat) : List Mem := if i ≤ p then Z.take i else Z.take p ++ (Z.take i).drop (p + 1)
theorem rmY_step {Z : List Mem} {p i : Nat} (hi : i < Z.length) (hn : i ≠ p) : rmY Z p (i + 1) = rmY Z p i ++ [Z.getD i zM] := by
  have e : Z.take (i + 1) = Z.take i ++ [Z.getD i zM] := by
    rw [List.take_succ_eq_append_getElem hi, List.getD_eq_getElem?_getD, List.getElem?_eq_getElem hi]
    rfl
  unfold rmY
  rcases Nat.lt_or_ge i p with h | h
  · rw [if_pos (show i + 1 ≤ p from h), if_pos (Nat.le_of_lt h), e]
  · rw [if_neg (show ¬ i + 1 ≤ p from by omega), if_neg (show ¬ i ≤ p from by omega), e, List.drop_append_of_le_length (by simp; omega)]
    simp
theorem rmY_at {Z : List Mem} {p : Nat} : rmY Z p (p + 1) = rmY Z p p := by
  unfold rmY
  rw [if_neg (show ¬ p + 1 ≤ p from by omega), if_pos (Nat.le_refl p), List.drop_of_length_le (by simp; omega)]
  simp
theorem rmY_len {Z : List Mem} {p i : Nat} : (rmY Z p i).length ≤ Z.length := by
  unfold rmY
  split
  · simp; omega
  · simp; omega
theorem rmY_end {Z : List Mem} {p : Nat} (h : p < Z.length) : rmY Z p Z.length = Z.take p ++ Z.drop (p + 1) := by
  unfold rmY
  rw [if_neg (by omega), List.take_length]

/-- both rows are other ones now, the place stays -/
theorem XR.puts2 {b B n : Nat} {q : Int} {Z Z' : List Mem} {w w1 : World} {v1 v2 v1' v2' : Value} {xs cs : List Int} (h : XR b q Z n B w) (hb : Below w.heap.size w w1) (hx : XB b q v1 v2 n w1) (hr1 : (Kd.int .u64).R tU w1 B (fun _ => True) v1' xs) (hr2 : (Kd.int .i64).R tI w1 B (fun _ => True) v2' cs) (e1 : xs = Z'.map (·.1)) (e2 : cs = Z'.map (·.2)) :
    XR b q Z' n B ((w1.setCell ⟨b, 1, none⟩ v1').setCell ⟨b, 2, none⟩ v2') ∧ FX B w ((w1.setCell ⟨b, 1, none⟩ v1').setCell ⟨b, 2, none⟩ v2') := by
  have hB : B ≤ b := by
    obtain ⟨_, _, _, hB, _⟩ := h.ex
    exact hB
  subst e1 e2
  have x1 := hx.s1 v1'
  have x2 := x1.s2 v2'
  refine ⟨⟨_, _, x2, hB, ?_, ?_⟩, ((FX.of_below hb h.base).trans (FX.set hx hB (.inl rfl))).trans (FX.set x1 hB (.inl rfl))⟩
  · exact row_set (row_set hr1 hx (by decide)) x1 (by decide)
  · exact row_set (row_set hr2 hx (by decide)) x1 (by decide)
/-- the place is one less, then both rows are other ones -/
theorem XR.puts3 {b B n n1 : Nat} {q : Int} {Z Z' : List Mem} {w w1 : World} {v1 v2 v1' v2' : Value} {xs cs : List Int} (h : XR b q Z n B w) (hb : Below w.heap.size w w1) (hx : XB b q v1 v2 n w1) (hn : n1 + 1 = n) (hr1 : (Kd.int .u64).R tU w1 B (fun _ => True) v1' xs) (hr2 : (Kd.int .i64).R tI w1 B (fun _ => True) v2' cs) (e1 : xs = Z'.map (·.1)) (e2 : cs = Z'.map (·.2)) :
    XR b q Z' n1 B (((w1.setCell ⟨b, 3, none⟩ (.int .i64 ((n : Int) - 1))).setCell ⟨b, 1, none⟩ v1').setCell ⟨b, 2, none⟩ v2') ∧ FX B w (((w1.setCell ⟨b, 3, none⟩ (.int .i64 ((n : Int) - 1))).setCell ⟨b, 1, none⟩ v1').setCell ⟨b, 2, none⟩ v2') := by
  have hB : B ≤ b := by
    obtain ⟨_, _, _, hB, _⟩ := h.ex
    exact hB
  subst e1 e2
  have x0 := hx.s3 ((n : Int) - 1)
  have x1 := x0.s1 v1'
  have x2 := x1.s2 v2'
  rw [show (n : Int) - 1 = (n1 : Int) from by omega] at x0 x1 x2 ⊢
  refine ⟨⟨_, _, x2, hB, ?_, ?_⟩, (((FX.of_below hb h.base).trans (FX.set hx hB (.inl rfl))).trans (FX.set x0 hB (.inl rfl))).trans (FX.set x1 hB (.inl rfl))⟩
  · exact row_set (row_set (row_set hr1 hx (by decide)) x0 (by decide)) x1 (by decide)
  · exact row_set (row_set (row_set hr2 hx (by decide)) x0 (by decide)) x1 (by decide)
set_option maxHeartbeats 6400000 in
set_option maxRecDepth 100000 in
theorem xrem_any (b B n : Nat) (q : Int) (Z : List Mem) (id : Int) (w : World) (h : XR b q Z n B w) (hat : n < Z.length ∨ (Z = [] ∧ n = 0)) (hn : Z.length ≤ 16) (hq : 1 ≤ q ∧ q ≤ 65536) (hs : small Z) :
    Calls Try.prog 22 #[.pointer (some ⟨b, 0, none⟩), .int .u64 id] w fun e w' => e = .returned (.int .i64 (remX q Z n id).1) ∧ XR b q (remX q Z n id).2.1 (remX q Z n id).2.2 B w' ∧ FX B w w' := by
  have HF := Lib.hid (xfind_any b B n q Z id w h (by omega))
  have HXR := Lib.hid h
  obtain ⟨A1, c1, A2, c2, hx, hB, h1, h2⟩ := h.opens
  obtain ⟨k0, k1, k2, k3, kf⟩ := hx.cells
  unfold remX
  by_cases hf : fnd id Z < Z.length
  rotate_left
  · rw [if_neg hf]
    have e1 : fndI id Z = -1 := by unfold fndI; rw [if_neg hf]
    rw [e1] at HF
    clear hx h1 h2 k0 k1 k2 k3 kf h hB hf hat e1
    go_enter Try.func22, Try.ntmps22
    go_wp2_with fail
    refine HF.out.mono ?_
    rintro e w1 ⟨rfl, rfl⟩
    go_wp2_with fail
    go_ret
    exact ⟨rfl, HXR.out, FX.refl _ _⟩
  rw [if_pos hf]
  have e1 : fndI id Z = fnd id Z := by unfold fndI; rw [if_pos hf]
  rw [e1] at HF
  clear e1
  generalize fnd id Z = p at *
  have hnz : n < Z.length := by
    rcases hat with h | ⟨h, _⟩
    · exact h
    · subst h; simp at hf
  clear hat
  dsimp only
  obtain ⟨RR, hRR⟩ : ∃ RR : List Mem × Nat, ((if p = n then bump q (if (Z.take p ++ Z.drop (p + 1)).length ≤ (if p < n then n - 1 else n) then 0 else (if p < n then n - 1 else n)) (Z.take p ++ Z.drop (p + 1)) else Z.take p ++ Z.drop (p + 1)), (if (Z.take p ++ Z.drop (p + 1)).length ≤ (if p < n then n - 1 else n) then 0 else (if p < n then n - 1 else n))) = RR := ⟨_, rfl⟩
  rw [show (if p = n then bump q (if (Z.take p ++ Z.drop (p + 1)).length ≤ (if p < n then n - 1 else n) then 0 else (if p < n then n - 1 else n)) (Z.take p ++ Z.drop (p + 1)) else Z.take p ++ Z.drop (p + 1)) = RR.1 from by rw [← hRR], show (if (Z.take p ++ Z.drop (p + 1)).length ≤ (if p < n then n - 1 else n) then 0 else (if p < n then n - 1 else n)) = RR.2 from by rw [← hRR]]
  have HRR := Lib.hid hRR
  clear hRR
  have H1 := Lib.hid h1
  have H2 := Lib.hid h2
  have HX := Lib.hid hx
  have HP := Lib.hid (show p < Z.length ∧ n < Z.length from ⟨hf, hnz⟩)
  have HSM := Lib.hid hs
  have HQ := Lib.hid hq
  have hp63 : (p : Int) ≤ 1000 := by omega
  clear hx h1 h2 k0 k2 k3 kf h hB hf hnz hs hq
  go_enter Try.func22, Try.ntmps22
  go_wp2_with fail
  refine HF.out.mono ?_
  rintro e w1 ⟨rfl, rfl⟩
  go_wp2_with fail
  clear k1 HF
  go_loopg [6, 7, 8] (Z.length + 1) (fun g v6 v7 v8 w' => ∃ (i : Nat) (xs cs : List Int), v8 = .int .i64 i ∧ Hid (i ≤ Z.length ∧ Z.length < g + i) ∧ Hid (xs = (rmY Z p i).map (·.1) ∧ cs = (rmY Z p i).map (·.2)) ∧ Hid ((Kd.int .u64).R tU w' w.heap.size (fun _ => True) v6 xs) ∧ Hid ((Kd.int .i64).R tI w' w.heap.size (fun _ => True) v7 cs) ∧ Hid (Below w.heap.size w w'))
  case atStart => exact ⟨0, [], [], rfl, Lib.hid ⟨by omega, by omega⟩, Lib.hid (by simp [rmY]), Lib.hid (Kd.R_nil _ _ _ _ _), Lib.hid (Kd.R_nil _ _ _ _ _), Lib.hid (Below.refl _ _)⟩
  case round =>
    obtain ⟨i, xs, cs, rfl, HJ, HS, HR1, HR2, HB⟩ := hrel
    cases gk with
    | zero => have := HJ.out; omega
    | succ k =>
      obtain ⟨A3, c3, rfl, hc3, hC3⟩ := Kd.R_reads HR1.out
      obtain ⟨A4, c4, rfl, hc4, hC4⟩ := Kd.R_reads HR2.out
      clear hC3 hc3 hC4 hc4
      have HLN := Lib.hid (show xs.length ≤ 17 ∧ cs.length ≤ 17 from by
        have := rmY_len (Z := Z) (p := p) (i := i)
        rw [HS.out.1, HS.out.2]
        simp only [List.length_map]
        omega)
      by_cases hlt : i < Z.length
      · have HJ' := Lib.hid (show i < Z.length ∧ Z.length < (k + 1) + i from ⟨hlt, HJ.out.2⟩)
        clear HJ
        by_cases hin : i = p
        rotate_left
        · have tn : ((i : Int) == (p : Int)) = false := beq_eq_false_iff_ne.2 (by omega)
          have tm : ((i : Int) != (p : Int)) = true := by simp; omega
          have HST := Lib.hid (rmY_step hlt hin)
          clear hin
          obtain ⟨_, k1, k2, k3, _⟩ := (show XB b q (.slice A1 Z.length c1) (.slice A2 Z.length c2) n wr from blk_below HX.out HB.out).cells
          obtain ⟨g1, rfl, _, _, hc1⟩ := row_at H1.out (by rw [List.length_map]; omega)
          obtain ⟨g2, rfl, _, _, hc2⟩ := row_at H2.out (by rw [List.length_map]; omega)
          have e0 := hc1 i (by rw [List.length_map]; exact hlt)
          have e1 := hc2 i (by rw [List.length_map]; exact hlt)
          rw [map_getD1 hlt] at e0
          rw [map_getD2 hlt] at e1
          have hg1 := World.block_lt_of_cell? w _ e0
          have hg2 := World.block_lt_of_cell? w _ e1
          have f0 := pw_cell_below HB.out e0
          have f1 := pw_cell_below HB.out e1
          have hkb := (show b < w.heap.size from HX.out.lt)
          clear hc1 hc2 e0 e1
          obtain ⟨m, hm⟩ : ∃ m : Mem, Z.getD i zM = m := ⟨_, rfl⟩
          rw [hm] at f0 f1
          have HMM := Lib.hid hm
          clear hm
          have q1 : ∀ m : Q.GW wr.drew w.heap.size none, m.w.cell? ⟨b, 1, none⟩ = some (.slice (some ⟨g1, 0, none⟩) Z.length c1) := fun m => (m.belowB (Nat.le_refl _) (fun _ h => by cases h)).cell (p := ⟨b, 1, none⟩) hkb |>.trans k1
          have q2 : ∀ m : Q.GW wr.drew w.heap.size none, m.w.cell? ⟨b, 2, none⟩ = some (.slice (some ⟨g2, 0, none⟩) Z.length c2) := fun m => (m.belowB (Nat.le_refl _) (fun _ h => by cases h)).cell (p := ⟨b, 2, none⟩) hkb |>.trans k2
          have q3 : ∀ x : Q.GW wr.drew w.heap.size none, x.w.cell? ⟨g1, i, none⟩ = some (.int .u64 m.1) := fun x => (x.belowB (Nat.le_refl _) (fun _ h => by cases h)).cell (p := ⟨g1, i, none⟩) hg1 |>.trans f0
          have q4 : ∀ x : Q.GW wr.drew w.heap.size none, x.w.cell? ⟨g2, i, none⟩ = some (.int .i64 m.2) := fun x => (x.belowB (Nat.le_refl _) (fun _ h => by cases h)).cell (p := ⟨g2, i, none⟩) hg2 |>.trans f1
          have z1 : (0 : Int) ≤ (i : Int) := by omega
          have z2 : (i : Int) < (Z.length : Int) := by omega
          go_wp2_with fail
          refine Q.wp_region_trB w.heap.size none (.two [0, 1, 2, 3, 4, 5, 6, 7, 10, 11, 12, 13, 14, 15, 16, 17] 8 (.two [] 9 (.ev [] 18 (.ev [] 19 (.done [20, 21]))) 18 (.ev [] 9 (.ev [] 19 (.done [20, 21])))) 18 (.ev [] 8 (.ev [] 9 (.ev [] 19 (.done [20, 21]))))) (by kernel_rfl) (by kernel_rfl) (by kernel_rfl) (by kernel_rfl) ?_
          refine Q.two_pre ?_
          dsimp only [Q.picks, Q.pick]
          repeat (go_big_quiet_step (fail))
          refine wpQuiet_nil ?_
          clear q1 q2 q3 q4 z1 z2 k1 k2 k3 f0 f1 hkb hg1 hg2
          refine Q.app2 35 36 45 46 39 tU 40 tI .u64 .i64 8 8 (.tmp 27) (.tmp 34) (.tmp 37) (.tmp 44) (.slice A3 xs.length c3) (.slice A4 cs.length c4) xs cs m.1 m.2 ⟨rfl, rfl, rfl⟩ ⟨rfl, rfl, rfl⟩ ⟨rfl, rfl, rfl⟩ ⟨rfl, rfl, rfl⟩ Try.underlying39 info_u64 (by decide) Try.underlying40 info_i64 (by decide) (by decide) (by rfl) (⟨Nat.le_of_ble_eq_true rfl, Nat.le_of_ble_eq_true rfl, Nat.le_of_ble_eq_true rfl, Nat.le_of_ble_eq_true rfl⟩) (by rfl) rfl rfl rfl rfl (Kd.R_below HR1.out (stay0 _)) (Kd.R_below HR2.out (stay0 _)) HB.out.size (by have := HLN.out; omega) (by have := HLN.out; omega) ?_
          intro u1 u3 v5 v6 w5 hr5 hr6 hb5
          have HR5 := Lib.hid hr5
          have HR6 := Lib.hid hr6
          have HB5 := Lib.hid ((HB.out.trans ((stay0 _).mono HB.out.size)).trans hb5)
          clear hr5 hr6 hb5
          dsimp only [Q.picks, Q.pick]
          go_simp
          repeat (go_big_quiet_step (fail))
          refine wpQuiet_nil ?_
          refine NoPanic.normal ?_
          go_wp2_with fail
          go_roundg k
          case measure => have := HJ'.out; omega
          case rel => exact ⟨i + 1, _, _, by go_num, Lib.hid (by have := HJ'.out; omega), Lib.hid (by rw [HST.out, HMM.out, HS.out.1, HS.out.2]; simp), HR5, HR6, HB5⟩
        · subst hin
          obtain ⟨_, k1, k2, k3, _⟩ := (show XB b q (.slice A1 Z.length c1) (.slice A2 Z.length c2) n wr from blk_below HX.out HB.out).cells
          have tm : ((i : Int) != (i : Int)) = false := by simp
          have tn : ((i : Int) == (i : Int)) = true := by simp
          clear k2 k3
          go_wp2_with fail
          go_roundg k
          case measure => have := HJ'.out; omega
          case rel => exact ⟨i + 1, _, _, by go_num, Lib.hid (by have := HJ'.out; omega), Lib.hid (by rw [rmY_at]; exact HS.out), HR1, HR2, HB⟩
      · have hi : i = Z.length := by have := HJ.out; omega
        subst hi
        clear HJ hlt
        have hY := rmY_end HP.out.1
        obtain ⟨Y, hYY⟩ : ∃ Y, Z.take p ++ Z.drop (p + 1) = Y := ⟨_, rfl⟩
        rw [hYY] at hY HRR
        have hS := HS.out
        rw [hY] at hS
        have hYl : Y.length + 1 = Z.length := by rw [← hYY]; have := HP.out; simp; omega
        have hxl : xs.length = Y.length := by rw [hS.1, List.length_map]
        have hcl : cs.length = Y.length := by rw [hS.2, List.length_map]
        have HYS := Lib.hid hS
        have HYL := Lib.hid hYl
        have HYSM := Lib.hid (show small Y from hYY ▸ small_app (small_take HSM.out _) (small_drop HSM.out _))
        rw [hxl] at HR1 ⊢
        rw [hcl] at HR2 ⊢
        have hYn : (Y.length : Int) ≤ 16 := by omega
        have hn63 : (n : Int) ≤ 16 := by have := HP.out; omega
        obtain ⟨k0, k1, k2, k3, kf⟩ := (show XB b q (.slice A1 Z.length c1) (.slice A2 Z.length c2) n wr from blk_below HX.out HB.out).cells
        have HX5 := Lib.hid (show XB b q (.slice A1 Z.length c1) (.slice A2 Z.length c2) n wr from blk_below HX.out HB.out)
        have f1 := kf 1
        have f2 := kf 2
        have f3 := kf 3
        clear kf hY hYY hS hYl hxl hcl HLN
        rcases Nat.lt_trichotomy p n with hc | hc | hc
        · -- ahead of the place
          have t1 : ((p : Int) == (n : Int)) = false := beq_eq_false_iff_ne.2 (by omega)
          have t2 : decide ((p : Int) < (n : Int)) = true := decide_eq_true (by omega)
          have t3 : decide ((Y.length : Int) ≤ (n : Int) - 1) = false := decide_eq_false (by have := HYL.out; have := HP.out; omega)
          have s1 : IntKind.i64.wrap ((n : Int) - 1) = (n : Int) - 1 := IntWalk.i64_in _ (by omega)
          have HC := Lib.hid hc
          clear hc
          go_wp2_with fail
          go_ret
          have hc := HC.out
          have hy := HYL.out
          have hpp := HP.out
          rw [← HRR.out]
          obtain ⟨hp1, hp2⟩ := XR.puts3 HXR.out HB.out HX5.out (n1 := n - 1) (by omega) (Kd.R_lower HR1.out HXR.out.base) (Kd.R_lower HR2.out HXR.out.base) HYS.out.1 HYS.out.2
          dsimp only
          rw [if_pos hc, if_neg (show ¬ Y.length ≤ n - 1 from by omega), if_neg (show ¬ p = n from by omega)]
          exact ⟨rfl, hp1, hp2⟩
        · -- the place itself
          subst hc
          have t1 : ((p : Int) == (p : Int)) = true := by simp
          have t2 : decide ((p : Int) < (p : Int)) = false := decide_eq_false (by omega)
          have t2' : decide (p < p) = false := decide_eq_false (by omega)
          by_cases hl : Y.length ≤ p
          · have t3 : decide ((Y.length : Int) ≤ (p : Int)) = true := decide_eq_true (by omega)
            have t3' : decide (Y.length ≤ p) = true := decide_eq_true hl
            have HLp := Lib.hid hl
            clear hl
            by_cases hY0 : Y.length = 0
            · have t4 : decide ((0 : Int) < (Y.length : Int)) = false := decide_eq_false (by omega)
              have t4' : decide (0 < Y.length) = false := decide_eq_false (by omega)
              have HY0 := Lib.hid hY0
              clear hY0
              go_wp2_with fail
              go_ret
              have hl := HLp.out
              rw [← HRR.out]
              obtain ⟨hp1, hp2⟩ := XR.puts HXR.out HB.out HX5.out (Kd.R_lower HR1.out HXR.out.base) (Kd.R_lower HR2.out HXR.out.base) (Z' := Y) (n' := 0) HYS.out.1 HYS.out.2
              have hYn : Y = [] := List.eq_nil_of_length_eq_zero HY0.out
              dsimp only
              rw [if_pos trivial, if_neg (show ¬ p < p from by omega), if_pos hl]
              refine ⟨rfl, ?_, hp2⟩
              have hbz : bump q 0 Y = Y := by rw [hYn]; rfl
              rw [hbz]
              exact hp1
            · have t4 : decide ((0 : Int) < (Y.length : Int)) = true := decide_eq_true (by omega)
              have t4' : decide (0 < Y.length) = true := decide_eq_true (by omega)
              have HY0 := Lib.hid hY0
              clear hY0
              go_wp2_with fail
              obtain ⟨hp1, hp2⟩ := XR.puts HXR.out HB.out HX5.out (Kd.R_lower HR1.out HXR.out.base) (Kd.R_lower HR2.out HXR.out.base) (Z' := Y) (n' := 0) HYS.out.1 HYS.out.2
              obtain ⟨w5, hw5⟩ : ∃ w5, w5 = (((wr.setCell ⟨b, 1, none⟩ (.slice A3 Y.length c3)).setCell ⟨b, 2, none⟩ (.slice A4 Y.length c4)).setCell ⟨b, 3, none⟩ (.int .i64 ((0 : Nat) : Int))) := ⟨_, rfl⟩
              rw [← hw5] at hp1 hp2
              rw [show (((wr.setCell ⟨b, 1, none⟩ (.slice A3 Y.length c3)).setCell ⟨b, 2, none⟩ (.slice A4 Y.length c4)).setCell ⟨b, 3, none⟩ (.int .i64 0)) = w5 from hw5.symm]
              clear hw5 k0 k1 k2 k3 f1 f2 f3
              have hk0 : 0 < Y.length := by have := HY0.out; omega
              have HFIN := Lib.hid (show (if p = p then bump q (if Y.length ≤ (if p < p then p - 1 else p) then 0 else (if p < p then p - 1 else p)) Y else Y) = bump q 0 Y ∧ (if Y.length ≤ (if p < p then p - 1 else p) then 0 else (if p < p then p - 1 else p)) = 0 from by
                rw [if_pos rfl, if_neg (show ¬ p < p from by omega), if_pos HLp.out]
                exact ⟨rfl, rfl⟩)
              obtain ⟨A5, c5, g, c6, cs6, hx6, hb6, e0, hset⟩ := hp1.bump hk0
              obtain ⟨m0, m1, m2, m3, mf⟩ := hx6.cells
              have hcred := HYSM.out (Y.getD 0 zM) (getD_mem hk0)
              have HSET := Lib.hid (hset q)
              have HP2 := Lib.hid hp2
              have fg := blk_frozen hb6 0
              generalize (Y.getD 0 zM).2 = cr at *
              have s1 : IntKind.i64.wrap (cr + q) = cr + q := IntWalk.i64_in _ (by have := HQ.out; omega)
              have z1 : (0 : Int) ≤ (0 : Int) := by omega
              have z2 : (0 : Int) < (Y.length : Int) := by omega
              have q0 : ∀ x : Q.GW w5.drew w5.heap.size none, x.w.cell? ⟨b, 0, none⟩ = some (.int .i64 q) := fun m => pw_cell_below (stay1 (stay0 w5) m.below) m0
              have q2 : ∀ x : Q.GW w5.drew w5.heap.size none, x.w.cell? ⟨b, 2, none⟩ = some (.slice (some ⟨g, 0, none⟩) Y.length c6) := fun m => pw_cell_below (stay1 (stay0 w5) m.below) m2
              have q3 : ∀ x : Q.GW w5.drew w5.heap.size none, x.w.cell? ⟨b, 3, none⟩ = some (.int .i64 0) := fun m => pw_cell_below (stay1 (stay0 w5) m.below) m3
              have q4 : ∀ x : Q.GW w5.drew w5.heap.size none, x.w.cell? ⟨g, 0, none⟩ = some (.int .i64 cr) := fun m => pw_cell_below (stay1 (stay0 w5) m.below) e0
              clear hset hp1 hp2 hx6 hb6 m0 m1 m2 m3 mf hcred
              refine Q.wp_region_segsF none [] [0, 1, 2, 3, 4, 5, 6, 7, 8, 9, 10, 11, 12, 13, 14, 15, 16, 17, 18, 19, 20, 21, 22, 23] 24 (by kernel_rfl) (by kernel_rfl) (by kernel_rfl) (by kernel_rfl) ?_
              dsimp only [Q.wpSegsF, Q.picks, Q.pick]
              repeat (go_big_quiet_step (fail))
              refine wpQuiet_nil ?_
              clear q0 q2 q3 q4 s1 z1 z2
              have e0' : w5.drew.cell? ⟨g, 0, none⟩ = some (.int .i64 cr) := e0
              have f0' : w5.drew.frozen? ⟨g, 0, none⟩ = false := fg
              go_wp2
              refine NoPanic.normal ?_
              go_wp2
              go_ret
              rw [← HRR.out]
              dsimp only
              rw [HFIN.out.1, HFIN.out.2]
              exact ⟨rfl, XR_drew HSET.out.1, HP2.out.trans (FX_drew HSET.out.2)⟩
          · have t3 : decide ((Y.length : Int) ≤ (p : Int)) = false := decide_eq_false (by omega)
            have t3' : decide (Y.length ≤ p) = false := decide_eq_false hl
            have HLp := Lib.hid hl
            have t4 : decide ((0 : Int) < (Y.length : Int)) = true := decide_eq_true (by omega)
            have t4' : decide (0 < Y.length) = true := decide_eq_true (by omega)
            clear hl
            go_wp2_with fail
            obtain ⟨hp1, hp2⟩ := XR.puts2 HXR.out HB.out HX5.out (Kd.R_lower HR1.out HXR.out.base) (Kd.R_lower HR2.out HXR.out.base) HYS.out.1 HYS.out.2
            obtain ⟨w5, hw5⟩ : ∃ w5, w5 = ((wr.setCell ⟨b, 1, none⟩ (.slice A3 Y.length c3)).setCell ⟨b, 2, none⟩ (.slice A4 Y.length c4)) := ⟨_, rfl⟩
            rw [← hw5] at hp1 hp2 ⊢
            clear hw5 k0 k1 k2 k3 f1 f2 f3
            have hk0 : p < Y.length := by have := HLp.out; omega
            have HFIN := Lib.hid (show (if p = p then bump q (if Y.length ≤ (if p < p then p - 1 else p) then 0 else (if p < p then p - 1 else p)) Y else Y) = bump q p Y ∧ (if Y.length ≤ (if p < p then p - 1 else p) then 0 else (if p < p then p - 1 else p)) = p from by
              rw [if_pos rfl, if_neg (show ¬ p < p from by omega), if_neg HLp.out]
              exact ⟨rfl, rfl⟩)
            obtain ⟨A5, c5, g, c6, cs6, hx6, hb6, e0, hset⟩ := hp1.bump hk0
            obtain ⟨m0, m1, m2, m3, mf⟩ := hx6.cells
            have hcred := HYSM.out (Y.getD p zM) (getD_mem hk0)
            have HSET := Lib.hid (hset q)
            have HP2 := Lib.hid hp2
            have fg := blk_frozen hb6 p
            generalize (Y.getD p zM).2 = cr at *
            have s1 : IntKind.i64.wrap (cr + q) = cr + q := IntWalk.i64_in _ (by have := HQ.out; omega)
            have z1 : (0 : Int) ≤ (p : Int) := by omega
            have z2 : (p : Int) < (Y.length : Int) := by omega
            have q0 : ∀ x : Q.GW w5.drew w5.heap.size none, x.w.cell? ⟨b, 0, none⟩ = some (.int .i64 q) := fun m => pw_cell_below (stay1 (stay0 w5) m.below) m0
            have q2 : ∀ x : Q.GW w5.drew w5.heap.size none, x.w.cell? ⟨b, 2, none⟩ = some (.slice (some ⟨g, 0, none⟩) Y.length c6) := fun m => pw_cell_below (stay1 (stay0 w5) m.below) m2
            have q3 : ∀ x : Q.GW w5.drew w5.heap.size none, x.w.cell? ⟨b, 3, none⟩ = some (.int .i64 p) := fun m => pw_cell_below (stay1 (stay0 w5) m.below) m3
            have q4 : ∀ x : Q.GW w5.drew w5.heap.size none, x.w.cell? ⟨g, p, none⟩ = some (.int .i64 cr) := fun m => pw_cell_below (stay1 (stay0 w5) m.below) e0
            clear hset hp1 hp2 hx6 hb6 m0 m1 m2 m3 mf hcred
            refine Q.wp_region_segsF none [] [0, 1, 2, 3, 4, 5, 6, 7, 8, 9, 10, 11, 12, 13, 14, 15, 16, 17, 18, 19, 20, 21, 22, 23] 24 (by kernel_rfl) (by kernel_rfl) (by kernel_rfl) (by kernel_rfl) ?_
            dsimp only [Q.wpSegsF, Q.picks, Q.pick]
            repeat (go_big_quiet_step (fail))
            refine wpQuiet_nil ?_
            clear q0 q2 q3 q4 s1 z1 z2
            have e0' : w5.drew.cell? ⟨g, p, none⟩ = some (.int .i64 cr) := e0
            have f0' : w5.drew.frozen? ⟨g, p, none⟩ = false := fg
            go_wp2
            refine NoPanic.normal ?_
            go_wp2
            go_ret
            rw [← HRR.out]
            dsimp only
            rw [HFIN.out.1, HFIN.out.2]
            exact ⟨rfl, XR_drew HSET.out.1, HP2.out.trans (FX_drew HSET.out.2)⟩
        · -- behind it
          have t1 : ((p : Int) == (n : Int)) = false := beq_eq_false_iff_ne.2 (by omega)
          have t2 : decide ((p : Int) < (n : Int)) = false := decide_eq_false (by omega)
          have t2' : decide (p < n) = false := decide_eq_false (by omega)
          have t3 : decide ((Y.length : Int) ≤ (n : Int)) = false := decide_eq_false (by have := HYL.out; have := HP.out; omega)
          have t3' : decide (Y.length ≤ n) = false := decide_eq_false (by have := HYL.out; have := HP.out; omega)
          have HC := Lib.hid hc
          clear hc
          go_wp2_with fail
          go_ret
          have hc := HC.out
          have hy := HYL.out
          have hpp := HP.out
          rw [← HRR.out]
          obtain ⟨hp1, hp2⟩ := XR.puts2 HXR.out HB.out HX5.out (Kd.R_lower HR1.out HXR.out.base) (Kd.R_lower HR2.out HXR.out.base) HYS.out.1 HYS.out.2
          dsimp only
          rw [if_neg (show ¬ p < n from by omega), if_neg (show ¬ Y.length ≤ n from by omega), if_neg (show ¬ p = n from by omega)]
          exact ⟨rfl, hp1, hp2⟩
end Go.Proofs.Ytbcononfgpfdbaa.D
