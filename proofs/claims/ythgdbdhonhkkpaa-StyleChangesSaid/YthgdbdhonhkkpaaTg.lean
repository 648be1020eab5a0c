/-
  style: Read.
-/
import Derived.Test.YthgdbdhonhkkpaaTf
namespace Go.Proofs.Ythgdbdhonhkkpaa.St
open Go.RowKit Go.Proofs.Ythgdbdhonhkkpaa.L Go.Proofs.Ythgdbdhonhkkpaa.V Go.Proofs.Ythgdbdhonhkkpaa.N Go.Proofs.YthgdbdhonhkkpaaW.PrintWords

abbrev tC2 : TypeId := 122
theorem two_made {W w : World} (h : W = (w.alloc (.cells (stA (0, 0, 0)) tS)).alloc (.cells (arr .u64 [0, 0]) tC2)) : OB w.heap.size (0, 0, 0) W ∧ AB .u64 tC2 (w.heap.size + 1) [0, 0] W ∧ Below w.heap.size w W ∧ W.heap.size = w.heap.size + 2 := by
  subst h
  have e := alloc_size w (.cells (stA (0, 0, 0)) tS)
  refine ⟨blk_alloc (OB.mk w (0, 0, 0)) _, ?_, ((Below.refl _ _).alloc (Nat.le_refl _) _).alloc (by omega) _, by rw [alloc_size, e]⟩
  have := AB.mk (w.alloc (.cells (stA (0, 0, 0)) tS)) .u64 tC2 [0, 0]
  rwa [e] at this
theorem OB.set3 {b : Nat} {s : Sty} {w : World} (h : OB b s w) (x y z : Nat) : OB b (x, y, z) (((w.setCell ⟨b, 0, none⟩ (.int .u8 (x : Int))).setCell ⟨b, 1, none⟩ (.int .u32 (y : Int))).setCell ⟨b, 2, none⟩ (.int .u32 (z : Int))) := ((h.s0 x).s1 y).s2 z
theorem set3_below {n b : Nat} {w0 w : World} {x y z : Value} (h : Below n w0 w) (hb : n ≤ b) : Below n w0 (((w.setCell ⟨b, 0, none⟩ x).setCell ⟨b, 1, none⟩ y).setCell ⟨b, 2, none⟩ z) :=
  ((h.setCell (p := ⟨b, 0, none⟩) hb x).setCell (p := ⟨b, 1, none⟩) hb y).setCell (p := ⟨b, 2, none⟩) hb z
theorem getR_bd {l : List Int} (hb : okB l) (i : Int) : 0 ≤ (getR l i).1 ∧ (getR l i).1 < 4611686018427387904 := by
  unfold getR
  (repeat' split) <;> first | exact ⟨Int.le_refl _, by show (0 : Int) < _; decide⟩ | exact dec_bd _ (fun x hx => hb x (List.mem_of_mem_drop hx))
theorem ev_keepN {W w1 : World} {B : Nat} {row : Option Nat} {K : Nat → Option Nat → Act → World → Prop} {Q' : Exit → Act → World → Prop} {a : Act} (h : Below W.heap.size W w1) (hB : B ≤ W.heap.size) (k : ∀ w', w' = w1 → K B row a w') :
    Q.EvQ (Q.Gr B row W) (Q.Goes K B row) Q' .normal a w1 := Q.ev_keep h hB (k _ rfl)
theorem ev_appN {W w1 : World} {B : Nat} {row : Option Nat} {K : Nat → Option Nat → Act → World → Prop} {Q' : Exit → Act → World → Prop} {a : Act} (h : Q.Gr B row W w1) (k : ∀ w', w' = w1 → K B row a w') :
    Q.EvQ (Q.Gr B row W) (Q.Goes K B row) Q' .normal a w1 := Q.ev_app h (Nat.le_refl _) (Q.NewRow.self _ _) (k _ rfl)
def rdV (r : Sty × Int × Int) : Ending := .returned (.tuple #[.agg (stA r.1), .int .i64 r.2.1, .int .i64 r.2.2])
set_option maxRecDepth 100000 in
set_option maxHeartbeats 3200000 in
theorem read_any (l : List Int) (A : Option Addr) (c : Nat) (i : Int) (w : World) (hC : (Kd.int .u8).C w A l.length l) (hc : l.length ≤ c) (hb : okB l) :
    Calls Try.prog 32 #[.slice A l.length c, .int .i64 i] w fun e w' => e = rdV (rdR l i) ∧ Below w.heap.size w w' := by
  have hX := OB.mk w (0, 0, 0)
  have hW : Below w.heap.size w (w.alloc (.cells (stA (0, 0, 0)) tS)) := (Below.refl _ _).alloc (Nat.le_refl _) _
  have hmx := (C_open hC).1
  by_cases h0 : i < 0 ∨ (l.length : Int) < i
  · have HE := Lib.hid (show rdR l i = ((0, 0, 0), 0, 1) from if_pos h0)
    have HX := Lib.hid hX
    have HW := Lib.hid hW
    clear hX hW hC hc hb hmx
    rcases h0 with h0 | h0
    · have t1 : decide (i < 0) = true := decide_eq_true h0
      clear h0
      go_enter Try.func32, Try.ntmps32
      go_wp2_with fail
      have hl := HX.out.load
      exact bodyPost_ret (v := .tuple #[.agg (stA (0, 0, 0)), .int .i64 0, .int .i64 1]) (by simp [results, Try.results32, asAddr]; exact (congrArg (fun r => Result.andThen r _) hl).trans rfl) rfl ⟨by rw [HE.out]; rfl, HW.out⟩
    · have t1 : decide (i < 0) = false := decide_eq_false (by omega)
      have t2 : decide ((l.length : Int) < i) = true := decide_eq_true h0
      clear h0
      go_enter Try.func32, Try.ntmps32
      go_wp2_with fail
      have hl := HX.out.load
      exact bodyPost_ret (v := .tuple #[.agg (stA (0, 0, 0)), .int .i64 0, .int .i64 1]) (by simp [results, Try.results32, asAddr]; exact (congrArg (fun r => Result.andThen r _) hl).trans rfl) rfl ⟨by rw [HE.out]; rfl, HW.out⟩
  obtain ⟨m, rfl⟩ := Int.eq_ofNat_of_zero_le (show 0 ≤ i by omega)
  have t1 : decide ((m : Int) < 0) = false := decide_eq_false (by omega)
  by_cases h1 : m = l.length
  · subst h1
    have HE := Lib.hid (show rdR l (l.length : Int) = ((0, 0, 0), 0, 10) from by unfold rdR; rw [if_neg h0, if_pos rfl])
    have HX := Lib.hid hX
    have HW := Lib.hid hW
    have t2 : decide ((l.length : Int) < (l.length : Int)) = false := decide_eq_false (by omega)
    clear hX hW hC hc hb hmx h0
    go_enter Try.func32, Try.ntmps32
    go_wp2_with fail
    have hl := HX.out.load
    exact bodyPost_ret (v := .tuple #[.agg (stA (0, 0, 0)), .int .i64 0, .int .i64 10]) (by simp [results, Try.results32, asAddr]; exact (congrArg (fun r => Result.andThen r _) hl).trans rfl) rfl ⟨by rw [HE.out]; rfl, HW.out⟩
  have hm : m < l.length := by omega
  have hR : rdR l (m : Int) = if (getR l ((m : Int) + 1)).2.2 ≠ 0 then ((0, 0, 0), 0, (getR l ((m : Int) + 1)).2.2) else if (getR l (getR l ((m : Int) + 1)).2.1).2.2 ≠ 0 then ((0, 0, 0), 0, (getR l (getR l ((m : Int) + 1)).2.1).2.2)
      else if 50331647 < (getR l ((m : Int) + 1)).1 ∨ 50331647 < (getR l (getR l ((m : Int) + 1)).2.1).1 then ((0, 0, 0), 0, 3)
      else if rightB ((l.getD m 0).toNat, (getR l ((m : Int) + 1)).1.toNat, (getR l (getR l ((m : Int) + 1)).2.1).1.toNat) then (((l.getD m 0).toNat, (getR l ((m : Int) + 1)).1.toNat, (getR l (getR l ((m : Int) + 1)).2.1).1.toNat), (getR l (getR l ((m : Int) + 1)).2.1).2.1, 0)
      else ((0, 0, 0), 0, 3) := by
    unfold rdR
    rw [if_neg h0, if_neg (by omega)]
    rfl
  have t2 : decide ((l.length : Int) < (m : Int)) = false := decide_eq_false (by omega)
  have t2n : decide (l.length < m) = false := decide_eq_false (by omega)
  have t3 : ((m : Int) == (l.length : Int)) = false := by rw [beq_eq_false_iff_ne]; omega
  have t3n : (m == l.length) = false := by rw [beq_eq_false_iff_ne]; omega
  have z1 : (m : Int) < (l.length : Int) := by omega
  have z2 : (l.length : Int) ≤ 9223372036854775807 := by omega
  have z3 : (0 : Int) ≤ (m : Int) := by omega
  obtain ⟨b, off, rfl, hbl, hcell⟩ := (C_open hC).2.resolve_left (fun h => by rw [h] at hm; simp at hm)
  have cx := hcell m hm
  have hx := hb.at_ m
  obtain ⟨x, hx2⟩ : ∃ x : Nat, l.getD m 0 = (x : Int) := ⟨(l.getD m 0).toNat, by omega⟩
  rw [hx2] at cx hx
  have HG := Lib.hid (fun (W : World) (j : Int) (h : Below w.heap.size w W) => get_any l (some ⟨b, off, none⟩) c j W (Kd.C_below hC h) hc hb)
  have hbd1 := getR_bd hb ((m : Int) + 1)
  have hbd2 := getR_bd hb (getR l ((m : Int) + 1)).2.1
  clear hC hc hb hcell hmx h0 h1 hX hW
  obtain ⟨p1, hp1⟩ : ∃ p, getR l ((m : Int) + 1) = p := ⟨_, rfl⟩
  have hq1 := fun W h => HG.out W ((m : Int) + 1) h
  rw [hp1] at hR hbd1 hbd2 hq1
  obtain ⟨v1, n1, e1⟩ := p1
  dsimp only at hR hbd1 hbd2
  obtain ⟨V1, rfl⟩ := Int.eq_ofNat_of_zero_le hbd1.1
  have HQ1 := Lib.hid hq1
  simp only [getV] at HQ1
  clear hq1 hp1
  obtain ⟨p2, hp2⟩ : ∃ p, getR l n1 = p := ⟨_, rfl⟩
  have hq2 := fun W h => HG.out W n1 h
  rw [hp2] at hR hbd2 hq2
  obtain ⟨v2, n2, e2⟩ := p2
  dsimp only at hR hbd2
  obtain ⟨V2, rfl⟩ := Int.eq_ofNat_of_zero_le hbd2.1
  have HQ2 := Lib.hid hq2
  simp only [getV] at HQ2
  clear hq2 hp2 HG
  rw [hx2, Int.toNat_natCast, Int.toNat_natCast, Int.toNat_natCast] at hR
  by_cases he1 : e1 ≠ 0
  · rw [if_pos he1] at hR
    have HE := Lib.hid hR
    have t4 : (e1 != 0) = true := by rw [bne_iff_ne]; exact he1
    clear hR he1 hbd1 hbd2 HQ2 cx hx hx2 hm hbl
    go_enter Try.func32, Try.ntmps32
    go_upto_region 6 with (fail)
    refine wp_at fun W hW => ?_
    obtain ⟨x1, x2, x3, x4⟩ := two_made hW
    have HX := Lib.hid x1
    have HW := Lib.hid x3
    clear hW x1 x2 x3 x4
    go_wp2_with fail
    refine wp_loop_rounds 3 ?_
    rw [rounds_succ]
    go_wp2_with (go_at_call 60; refine (HQ1.out _ HW.out).mono ?_; rintro e w1 ⟨rfl, hb1⟩; (have HB1 := Lib.hid (HW.out.trans (hb1.mono HW.out.size))); (have HX1 := Lib.hid (HX.out.below hb1)); clear hb1 HQ1; (have k0 := HX1.out.c0); (have k1 := HX1.out.c1); (have k2 := HX1.out.c2); (have f0 := HX1.out.fz 0); (have f1 := HX1.out.fz 1); (have f2 := HX1.out.fz 2))
    have hl := (HX1.out.set3 0 0 0).load
    exact bodyPost_ret (v := .tuple #[.agg (stA (0, 0, 0)), .int .i64 0, .int .i64 e1]) (by simp [results, Try.results32, asAddr]; exact (congrArg (fun r => Result.andThen r _) hl).trans rfl) rfl ⟨by rw [HE.out]; rfl, set3_below HB1.out (Nat.le_refl _)⟩
  rw [if_neg he1] at hR
  obtain rfl : e1 = 0 := Classical.not_not.1 he1
  clear he1
  by_cases he2 : e2 ≠ 0
  · rw [if_pos he2] at hR
    have HE := Lib.hid hR
    have t4 : (e2 != 0) = true := by rw [bne_iff_ne]; exact he2
    clear hR he2 hbd1 hbd2 cx hx hx2 hm hbl
    go_enter Try.func32, Try.ntmps32
    go_upto_region 6 with (fail)
    refine wp_at fun W hW => ?_
    obtain ⟨x1, x2, x3, x4⟩ := two_made hW
    have HX := Lib.hid x1
    have HA := Lib.hid x2
    have HW := Lib.hid x3
    clear hW x1 x2 x3 x4
    go_wp2_with fail
    refine wp_loop_rounds 3 ?_
    rw [rounds_succ]
    go_wp2_with (go_at_call 60; refine (HQ1.out _ HW.out).mono ?_; rintro e w1 ⟨rfl, hb1⟩; (have HB1 := Lib.hid (HW.out.trans (hb1.mono HW.out.size))); (have HX1 := Lib.hid (HX.out.below hb1)); (have HA1 := Lib.hid (HA.out.below HA.out.lt hb1)); clear hb1 HQ1; (have a0 := HA1.out.cell (i := 0) (by decide)); (have g0 := HA1.out.fz 0))
    refine wp_at fun W3 hW3 => ?_
    have HX3 := Lib.hid (show OB w.heap.size (0, 0, 0) W3 from hW3 ▸ HX1.out.grown (grown_set w1 (w.heap.size + 1) 0 _) (by omega))
    have HB3 := Lib.hid (show Below w.heap.size w W3 from hW3 ▸ HB1.out.setCell (p := ⟨w.heap.size + 1, 0, none⟩) (Nat.le_succ _) _)
    clear hW3 a0 g0
    go_wp2_with (go_at_call 60; refine (HQ2.out _ HB3.out).mono ?_; rintro e w4 ⟨rfl, hb1⟩; (have HB4 := Lib.hid (HB3.out.trans (hb1.mono HB3.out.size))); (have HX4 := Lib.hid (HX3.out.below hb1)); clear hb1 HQ2; (have k0 := HX4.out.c0); (have k1 := HX4.out.c1); (have k2 := HX4.out.c2); (have f0 := HX4.out.fz 0); (have f1 := HX4.out.fz 1); (have f2 := HX4.out.fz 2))
    have hl := (HX4.out.set3 0 0 0).load
    exact bodyPost_ret (v := .tuple #[.agg (stA (0, 0, 0)), .int .i64 0, .int .i64 e2]) (by simp [results, Try.results32, asAddr]; exact (congrArg (fun r => Result.andThen r _) hl).trans rfl) rfl ⟨by rw [HE.out]; rfl, set3_below HB4.out (Nat.le_refl _)⟩
  rw [if_neg he2] at hR
  obtain rfl : e2 = 0 := Classical.not_not.1 he2
  clear he2
  obtain ⟨M1, hM1, hM1b, hM1c⟩ : ∃ M1 : Nat, (if (2147483648 : Int) < (V1 : Int) then 2147483648 else (V1 : Int)) = (M1 : Int) ∧ M1 ≤ 2147483648 ∧ ((V1 ≤ 50331647 → M1 = V1) ∧ (50331647 < V1 → 50331647 < M1)) := by
    by_cases h : (2147483648 : Int) < (V1 : Int)
    · exact ⟨2147483648, by rw [if_pos h]; rfl, by omega, by omega, by omega⟩
    · exact ⟨V1, by rw [if_neg h], by omega, by omega, by omega⟩
  obtain ⟨M2, hM2, hM2b, hM2c⟩ : ∃ M1 : Nat, (if (2147483648 : Int) < (V2 : Int) then 2147483648 else (V2 : Int)) = (M1 : Int) ∧ M1 ≤ 2147483648 ∧ ((V2 ≤ 50331647 → M1 = V2) ∧ (50331647 < V2 → 50331647 < M1)) := by
    by_cases h : (2147483648 : Int) < (V2 : Int)
    · exact ⟨2147483648, by rw [if_pos h]; rfl, by omega, by omega, by omega⟩
    · exact ⟨V2, by rw [if_neg h], by omega, by omega, by omega⟩
  have hR2 : rdR l (m : Int) = if rightB (x, M1, M2) then ((x, M1, M2), n2, 0) else ((0, 0, 0), 0, 3) := by
    rw [hR]
    by_cases h1 : (50331647 : Int) < (V1 : Int)
    · have : rightB (x, M1, M2) = false := by
        have : colB M1 = false := decide_eq_false (by omega)
        simp [rightB, this]
      rw [if_pos (.inl h1), this]
      rfl
    by_cases h2 : (50331647 : Int) < (V2 : Int)
    · have : rightB (x, M1, M2) = false := by
        have : colB M2 = false := decide_eq_false (by omega)
        simp [rightB, this]
      rw [if_pos (.inr h2), this]
      rfl
    rw [if_neg (by omega), hM1c.1 (by omega), hM2c.1 (by omega)]
  have y1 : (M1 : Int) ≤ 2147483648 := by omega
  have y2 : (M2 : Int) ≤ 2147483648 := by omega
  have HE := Lib.hid hR2
  have HCx := Lib.hid cx
  have HBl := Lib.hid hbl
  clear hR hR2 hbd1 hbd2 cx hx hx2 hm hbl hM1b hM2b hM1c hM2c
  go_enter Try.func32, Try.ntmps32
  go_upto_region 6 with (fail)
  refine wp_at fun W hW => ?_
  obtain ⟨x1, x2, x3, x4⟩ := two_made hW
  have HX := Lib.hid x1
  have HA := Lib.hid x2
  have HW := Lib.hid x3
  clear hW x1 x2 x3 x4
  go_wp2_with fail
  refine wp_loop_rounds 3 ?_
  rw [rounds_succ]
  go_wp2_with (go_at_call 60; refine (HQ1.out _ HW.out).mono ?_; rintro e w1 ⟨rfl, hb1⟩; (have HB1 := Lib.hid (HW.out.trans (hb1.mono HW.out.size))); (have HX1 := Lib.hid (HX.out.below hb1)); (have HA1 := Lib.hid (HA.out.below HA.out.lt hb1)); clear hb1 HQ1; (have a0 := HA1.out.cell (i := 0) (by decide)); (have g0 := HA1.out.fz 0))
  refine wp_at fun W3 hW3 => ?_
  have HX3 := Lib.hid (show OB w.heap.size (0, 0, 0) W3 from hW3 ▸ HX1.out.grown (grown_set w1 (w.heap.size + 1) 0 _) (by omega))
  have HB3 := Lib.hid (show Below w.heap.size w W3 from hW3 ▸ HB1.out.setCell (p := ⟨w.heap.size + 1, 0, none⟩) (Nat.le_succ _) _)
  have HA3 := Lib.hid (show AB .u64 tC2 (w.heap.size + 1) [V1, 0] W3 from hW3 ▸ HA1.out.set 0 V1)
  clear hW3 a0 g0 HA1 HX1 HB1 HX HA HW
  go_wp2_with (go_at_call 60; refine (HQ2.out _ HB3.out).mono ?_; rintro e w4 ⟨rfl, hb1⟩; (have HB4 := Lib.hid (HB3.out.trans (hb1.mono HB3.out.size))); (have HX4 := Lib.hid (HX3.out.below hb1)); (have HA4 := Lib.hid (HA3.out.below HA3.out.lt hb1)); clear hb1 HQ2; (have a0 := HA4.out.cell (i := 1) (show 1 < 2 from by decide)); (have g0 := HA4.out.fz 1))
  refine wp_at fun W5 hW5 => ?_
  have HX5 := Lib.hid (show OB w.heap.size (0, 0, 0) W5 from hW5 ▸ HX4.out.grown (grown_set w4 (w.heap.size + 1) 1 _) (by omega))
  have HB5 := Lib.hid (show Below w.heap.size w W5 from hW5 ▸ HB4.out.setCell (p := ⟨w.heap.size + 1, 1, none⟩) (Nat.le_succ _) _)
  have HA5 := Lib.hid (show AB .u64 tC2 (w.heap.size + 1) [V1, V2] W5 from hW5 ▸ HA4.out.set 1 V2)
  clear hW5 a0 g0 HA3 HX3 HB3 HA4 HX4 HB4
  go_wp2_with fail
  have bb : b < W5.heap.size := Nat.lt_of_lt_of_le HBl.out HB5.out.size
  have q0 := gw bb ((HB5.out.cell (p := ⟨b, off + m, none⟩) HBl.out).trans HCx.out)
  have q1 : ∀ n : Q.GW W5.drew W5.heap.size none, n.w.cell? ⟨w.heap.size + 1, 0, none⟩ = some (.int .u64 (V1 : Int)) := gw HA5.out.lt (HA5.out.cell (i := 0) (show 0 < 2 from by decide))
  have q2 : ∀ n : Q.GW W5.drew W5.heap.size none, n.w.cell? ⟨w.heap.size + 1, 1, none⟩ = some (.int .u64 (V2 : Int)) := gw HA5.out.lt (HA5.out.cell (i := 1) (show 1 < 2 from by decide))
  clear bb
  refine Q.wp_region_segs none [([0, 1, 2, 3, 4, 5, 6, 7, 8, 9, 10, 11, 12], some 13), ([], some 14), ([], none)] (by kernel_rfl) (by kernel_rfl) (by kernel_rfl) (by kernel_rfl) ?_
  dsimp only [Q.wpSegs, Q.picks, Q.pick]
  repeat (go_big_quiet_step (fail))
  refine wpQuiet_nil ?_
  clear q0 q1 q2
  go_wp2_with fail
  have hb' : Below W5.drew.heap.size W5.drew (W5.drew.alloc (.cells (stA (0, 0, 0)) tS)) := (Below.refl _ _).alloc (Nat.le_refl _) _
  refine ev_keepN hb' (Nat.le_refl _) fun W6 hWs => ?_
  have hWn : W6 = W5.drew.alloc (.cells (stA (0, 0, 0)) tS) := hWs.trans rfl
  have H7 := Lib.hid (show OB W5.heap.size (0, 0, 0) W6 from hWn ▸ OB.mk W5.drew (0, 0, 0))
  have HX6 := Lib.hid (show OB w.heap.size (0, 0, 0) W6 from hWn ▸ blk_alloc HX5.out _)
  have HB6 := Lib.hid (show Below w.heap.size w W6 from hWn ▸ (below_drew HB5.out).alloc HB5.out.size _)
  have HLt := Lib.hid (show w.heap.size < W5.heap.size from HX5.out.lt)
  clear hWs hWn hb' HX5 HB5 HA5
  refine wpQuiet_nil ?_
  have k0 := H7.out.c0
  have k1 := H7.out.c1
  have k2 := H7.out.c2
  have f0 := H7.out.fz 0
  have f1 := H7.out.fz 1
  have f2 := H7.out.fz 2
  go_wp2_with fail
  have hp := H7.out.set3 x M1 M2
  have hg := ((grown_set W6 W5.heap.size 0 (.int .u8 (x : Int))).trans (grown_set _ W5.heap.size 1 (.int .u32 (M1 : Int)))).trans (grown_set _ W5.heap.size 2 (.int .u32 (M2 : Int)))
  refine ev_appN ⟨hg.os, hg.tape, hg.output, hg.size, fun i hi _ => hg.block i (by have := H7.out.lt; have : W5.drew.heap.size = W5.heap.size := rfl; omega) (fun e => by injection e with e; have : W5.drew.heap.size = W5.heap.size := rfl; omega)⟩ fun W7 hW7 => ?_
  rw [← hW7] at hp hg
  have H8 := Lib.hid hp
  have HX7 := Lib.hid (HX6.out.grown hg (by have := HLt.out; omega))
  have HB7 := Lib.hid (below_grown HB6.out HB6.out.size hg (Nat.le_of_lt HLt.out))
  clear hp hg hW7 k0 k1 k2 f0 f1 f2 H7 HX6 HB6
  refine wpQuiet_nil ?_
  refine NoPanic.normal ?_
  have k0 := H8.out.c0
  have k1 := H8.out.c1
  have k2 := H8.out.c2
  by_cases hr : rightB (x, M1, M2) = true
  · have HE2 := HE.out
    rw [if_pos hr] at HE2
    have HE3 := Lib.hid HE2
    have hq := fun W => right_any (x, M1, M2) W
    rw [hr] at hq
    have HQ := Lib.hid hq
    clear hq hr HE HE2
    go_wp2_with (go_at_call 40; refine (HQ.out _).mono ?_; rintro e w8 ⟨rfl, hb1⟩; (have HX8 := Lib.hid (HX7.out.below hb1)); (have H9 := Lib.hid (H8.out.below hb1)); (have HB8 := Lib.hid (HB7.out.trans (hb1.mono HB7.out.size))); clear hb1 HQ k0 k1 k2; (have k0 := H9.out.c0); (have k1 := H9.out.c1); (have k2 := H9.out.c2); (have a0 := HX8.out.c0); (have a1 := HX8.out.c1); (have a2 := HX8.out.c2); (have f0 := HX8.out.fz 0); (have f1 := HX8.out.fz 1); (have f2 := HX8.out.fz 2))
    have hl := (HX8.out.set3 x M1 M2).load
    exact bodyPost_ret (v := .tuple #[.agg (stA (x, M1, M2)), .int .i64 n2, .int .i64 0]) (by simp [results, Try.results32, asAddr]; exact (congrArg (fun r => Result.andThen r _) hl).trans rfl) rfl ⟨by rw [HE3.out]; rfl, set3_below HB8.out (Nat.le_refl _)⟩
  · have HE2 := HE.out
    rw [if_neg hr] at HE2
    have HE3 := Lib.hid HE2
    have hq := fun W => right_any (x, M1, M2) W
    rw [eq_false_of_ne_true hr] at hq
    have HQ := Lib.hid hq
    clear hq hr HE HE2
    go_wp2_with (go_at_call 40; refine (HQ.out _).mono ?_; rintro e w8 ⟨rfl, hb1⟩; (have HX8 := Lib.hid (HX7.out.below hb1)); (have HB8 := Lib.hid (HB7.out.trans (hb1.mono HB7.out.size))); clear hb1 HQ k0 k1 k2; (have a0 := HX8.out.c0); (have a1 := HX8.out.c1); (have a2 := HX8.out.c2); (have f0 := HX8.out.fz 0); (have f1 := HX8.out.fz 1); (have f2 := HX8.out.fz 2))
    have hl := (HX8.out.set3 0 0 0).load
    exact bodyPost_ret (v := .tuple #[.agg (stA (0, 0, 0)), .int .i64 0, .int .i64 3]) (by simp [results, Try.results32, asAddr]; exact (congrArg (fun r => Result.andThen r _) hl).trans rfl) rfl ⟨by rw [HE3.out]; rfl, set3_below HB8.out (Nat.le_refl _)⟩
end Go.Proofs.Ythgdbdhonhkkpaa.St
