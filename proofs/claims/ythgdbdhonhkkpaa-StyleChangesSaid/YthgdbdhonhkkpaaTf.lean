/-
  style: numbers, Params, Write.
-/
import Derived.Test.YthgdbdhonhkkpaaTe
namespace Go.Proofs.Ythgdbdhonhkkpaa.St
open Go.RowKit Go.Proofs.Ythgdbdhonhkkpaa.L Go.Proofs.Ythgdbdhonhkkpaa.V Go.Proofs.Ythgdbdhonhkkpaa.N Go.Proofs.YthgdbdhonhkkpaaW.PrintWords

theorem and32 (x : Int) (h0 : 0 ≤ x) (h1 : x < 4294967296) : bits .and .u32 x 255 = x % 256 := bits_mask .u32 32 (by decide) wraps_u32 8 (by decide) x h0 h1
set_option maxRecDepth 100000 in
set_option maxHeartbeats 1600000 in
theorem numbers_any (first : Int) (c : Nat) (w : World) (hc : colB c = true) :
    Calls Try.prog 69 #[.int .i64 first, .int .u32 (c : Int)] w fun e w' => ∃ v, e = .returned v ∧ (Kd.int .i64).R 3 w' w.heap.size (fun _ => True) v (nums first c) ∧ Below w.heap.size w w' := by
  have hb := of_decide_eq_true hc
  clear hc
  by_cases h0 : c = 0
  · subst h0
    clear hb
    go_enter Try.func69, Try.ntmps69
    go_wp2_with fail
    go_ret
    exact ⟨_, rfl, Kd.R_nil _ _ _ _ _, Below.refl _ _⟩
  have t0 : ((c : Int) == 0) = false := by rw [beq_eq_false_iff_ne]; omega
  have t0n : (c == 0) = false := by rw [beq_eq_false_iff_ne]; omega
  by_cases h1 : c < 33554432
  · have HE := Lib.hid (show nums first c = [first, 5, (c : Int) - 16777216] from by unfold nums; rw [if_neg h0, if_pos h1])
    have t1 : decide ((c : Int) < 33554432) = true := decide_eq_true (by omega)
    have t1n : decide (c < 33554432) = true := decide_eq_true (by omega)
    have z1 : 16777216 ≤ (c : Int) := by omega
    have z2 : (c : Int) < 33554432 := by omega
    clear h0 h1 hb
    go_enter Try.func69, Try.ntmps69
    go_wp2_with fail
    go_ret
    refine ⟨_, rfl, ?_, (Below.refl _ _).alloc (Nat.le_refl _) _⟩
    rw [HE.out]
    exact R_of_blk (l := [first, 5, (c : Int) - 16777216]) (heap_alloc_new _ _) (Nat.le_refl _) (by show 3 ≤ maxLen; decide)
  · have HE := Lib.hid (show nums first c = [first, 2, (c : Int) / 65536 % 256, (c : Int) / 256 % 256, (c : Int) % 256] from by unfold nums; rw [if_neg h0, if_neg h1])
    have t1 : decide ((c : Int) < 33554432) = false := decide_eq_false (by omega)
    have t1n : decide (c < 33554432) = false := decide_eq_false (by omega)
    have a1 := and32 ((c : Int) / 65536) (by omega) (by omega)
    have a2 := and32 ((c : Int) / 256) (by omega) (by omega)
    have a3 := and32 (c : Int) (by omega) (by omega)
    obtain ⟨r1, hr1⟩ : ∃ r : Nat, (c : Int) / 65536 % 256 = (r : Int) := ⟨((c : Int) / 65536 % 256).toNat, by omega⟩
    obtain ⟨r2, hr2⟩ : ∃ r : Nat, (c : Int) / 256 % 256 = (r : Int) := ⟨((c : Int) / 256 % 256).toNat, by omega⟩
    obtain ⟨r3, hr3⟩ : ∃ r : Nat, (c : Int) % 256 = (r : Int) := ⟨((c : Int) % 256).toNat, by omega⟩
    have y1 : (r1 : Int) < 256 := by omega
    have y2 : (r2 : Int) < 256 := by omega
    have y3 : (r3 : Int) < 256 := by omega
    rw [hr1, hr2, hr3] at HE
    rw [hr1] at a1
    rw [hr2] at a2
    rw [hr3] at a3
    have z2 : (c : Int) < 50331648 := by omega
    have z1 : 33554432 ≤ (c : Int) := by omega
    clear h0 h1 hb hr1 hr2 hr3
    go_enter Try.func69, Try.ntmps69
    go_wp2_with fail
    go_ret
    refine ⟨_, rfl, ?_, (Below.refl _ _).alloc (Nat.le_refl _) _⟩
    rw [HE.out]
    exact R_of_blk (l := [first, 2, (r1 : Int), (r2 : Int), (r3 : Int)]) (heap_alloc_new _ _) (Nat.le_refl _) (by show 5 ≤ maxLen; decide)
theorem nums_len (first : Int) (c : Nat) : (nums first c).length ≤ 5 := by
  unfold nums
  (repeat' split) <;> simp
theorem flagT_succ (f k : Nat) : flagT f (k + 1) = if flagN ((k + 1 : Nat) : Int) ≠ 0 ∧ f &&& flagN ((k + 1 : Nat) : Int) ≠ 0 then flagT f k ++ [((k + 1 : Nat) : Int)] else flagT f k := by rw [flagT]
theorem u8and (a b : Nat) (ha : a < 256) (hb : b < 256) : bits .and .u8 (a : Int) (b : Int) = ((a &&& b : Nat) : Int) := u8_and_nat a b ha hb
set_option maxRecDepth 100000 in
set_option maxHeartbeats 3200000 in
theorem params_any (s : Sty) (w : World) (hs : s.1 < 256) :
    Calls Try.prog 38 #[.agg (stA s)] w fun e w' => ∃ v, e = .returned v ∧ (Kd.int .i64).R 3 w' w.heap.size (fun _ => True) v (parR s) ∧ Below w.heap.size w w' := by
  have hX := OB.mk w s
  have hW : Below w.heap.size w (w.alloc (.cells (stA s) tS)) := (Below.refl _ _).alloc (Nat.le_refl _) _
  by_cases hr : rightB s = true
  · have HE := Lib.hid (show parR s = [0] ++ flagT s.1 9 ++ nums 38 s.2.1 ++ nums 48 s.2.2 from if_pos hr)
    have hq := fun W => right_any s W
    rw [hr] at hq
    rw [rightB, Bool.and_eq_true] at hr
    have HQ := Lib.hid hq
    have HR := Lib.hid hr
    have HX := Lib.hid hX
    have HW := Lib.hid hW
    have HS := Lib.hid hs
    clear hq hr hX hW hs
    rw [show (Value.agg (stA s)) = .agg #[.int .u8 (s.1 : Int), .int .u32 (s.2.1 : Int), .int .u32 (s.2.2 : Int)] from rfl]
    go_enter Try.func38, Try.ntmps38
    go_wp2_with (go_at_call 40; refine (HQ.out _).mono ?_; rintro e w1 ⟨rfl, hb1⟩; (have HX1 := Lib.hid (HX.out.below hb1)); (have HB1 := Lib.hid (HW.out.trans (hb1.mono HW.out.size))); clear hb1 HQ)
    have ho0 : Hid ((Kd.int .i64).R 3 (w1.alloc (.cells #[.int .i64 0] 3)) w.heap.size (fun _ => True) (.slice (some ⟨w1.heap.size, 0, none⟩) 1 1) ([0] ++ flagT s.1 0)) := Lib.hid (R_of_blk (l := [0]) (heap_alloc_new _ _) HB1.out.size (by show 1 ≤ maxLen; decide))
    go_loopg [3, 4] 11 (fun g v3 v4 w' => ∃ i : Nat, v4 = .int .i64 ((i + 1 : Nat) : Int) ∧ Hid (i ≤ 9 ∧ 10 < g + i) ∧ Hid ((Kd.int .i64).R 3 w' w.heap.size (fun _ => True) v3 ([0] ++ flagT s.1 i)) ∧ Hid (OB w.heap.size s w') ∧ Hid (Below w.heap.size w w'))
    case atStart => exact ⟨0, rfl, Lib.hid ⟨by omega, by omega⟩, ho0, Lib.hid (HX1.out.below ((Below.refl _ _).alloc (Nat.le_refl _) _)), Lib.hid (HB1.out.alloc HB1.out.size _)⟩
    case round =>
      obtain ⟨i, rfl, HJ, HV, HO, HB⟩ := hrel
      clear ho0 HX1 HB1 HX HW
      cases gk with
      | zero => have := HJ.out; omega
      | succ k =>
        by_cases hi : i < 9
        · have HJ' := Lib.hid (show i < 9 ∧ 10 < (k + 1) + i from ⟨hi, HJ.out.2⟩)
          have HF := Lib.hid (flagT_succ s.1 i)
          have hfl := fun W => flag_any ((i + 1 : Nat) : Int) W
          have hlt := flag_lt ((i + 1 : Nat) : Int)
          have z1 : ((i + 1 : Nat) : Int) < 10 := by omega
          have z2 : (0 : Int) ≤ ((i + 1 : Nat) : Int) := by omega
          generalize flagN ((i + 1 : Nat) : Int) = f at *
          have HFl := Lib.hid hfl
          have c0 := HO.out.c0
          have hbit := u8and s.1 f HS.out hlt
          clear hfl hi HJ
          by_cases hf : f = 0
          · subst hf
            rw [if_neg (by rintro ⟨h, _⟩; exact h rfl)] at HF
            clear hbit hlt c0
            go_wp2_with (go_at_call 68; refine (HFl.out _).mono ?_; rintro e w1 ⟨rfl, hw1⟩; (rw [hw1]); clear hw1 w1)
            go_roundg k
            case measure => have := HJ'.out; omega
            case rel => exact ⟨i + 1, by go_num, Lib.hid (by have := HJ'.out; omega), Lib.hid (by rw [HF.out]; exact HV.out), HO, HB⟩
          have t1 : ((f : Int) != 0) = true := by rw [bne_iff_ne]; omega
          have t1n : (f != 0) = true := by rw [bne_iff_ne]; exact hf
          have hand : s.1 &&& f < 256 := Nat.and_lt_two_pow (n := 8) _ hlt
          obtain ⟨q, hq⟩ : ∃ q, s.1 &&& f = q := ⟨_, rfl⟩
          rw [hq] at hbit HF hand
          by_cases hq0 : q = 0
          · subst hq0
            rw [if_neg (by rintro ⟨_, h⟩; exact h rfl)] at HF
            clear hlt hf hand hq
            go_wp2_with (go_at_call 68; refine (HFl.out _).mono ?_; rintro e w1 ⟨rfl, hw1⟩; (rw [hw1]); clear hw1 w1)
            go_roundg k
            case measure => have := HJ'.out; omega
            case rel => exact ⟨i + 1, by go_num, Lib.hid (by have := HJ'.out; omega), Lib.hid (by rw [HF.out]; exact HV.out), HO, HB⟩
          · have t2 : ((q : Int) != 0) = true := by rw [bne_iff_ne]; omega
            have t2n : (q != 0) = true := by rw [bne_iff_ne]; exact hq0
            rw [if_pos ⟨hf, hq0⟩] at HF
            have HL := Lib.hid (flagT_len s.1 i)
            clear hlt hf hq0 hand hq
            go_wp2_with (first
              | (go_at_call 68; refine (HFl.out _).mono ?_; rintro e w1 ⟨rfl, hw1⟩; (rw [hw1]); clear hw1 w1)
              | (at_builtin; refine app1 (w0 := w) .i64 w.heap.size (.tmp 25) (.tmp 27) 72 3 8 rfl rfl Try.underlying72 info_i (by decide) u3 ([0] ++ flagT s.1 i) ((i + 1 : Nat) : Int) rfl rfl HV.out HB.out HB.out.size (by have := HL.out; have := HJ'.out; simp; omega) ?_; intro v8 w8 hr8 hb8 hg8; (have HR8 := Lib.hid hr8); (have HB8 := Lib.hid hb8); (have HG8 := Lib.hid hg8); clear hr8 hb8 hg8))
            go_roundg k
            case measure => have := HJ'.out; omega
            case rel => exact ⟨i + 1, by go_num, Lib.hid (by have := HJ'.out; omega), Lib.hid (by rw [HF.out, ← List.append_assoc]; exact HR8.out), Lib.hid (blk_grown HO.out HG8.out (own_ne (Kd.own_of_R HV.out) HO.out (by decide))), HB8⟩
        · obtain rfl : i = 9 := by have := HJ.out; omega
          have c1 := HO.out.c1
          have c2 := HO.out.c2
          clear hi HJ
          have HL := Lib.hid (flagT_len s.1 9)
          have HN1 := Lib.hid (nums_len 38 s.2.1)
          have HN2 := Lib.hid (nums_len 48 s.2.2)
          go_wp2_with fail
          refine (numbers_any 38 s.2.1 _ HR.out.1).mono ?_
          rintro e w2 ⟨v, rfl, hv, hb2⟩
          obtain ⟨A1, q1, rfl, hq1, hC1⟩ := Kd.R_reads hv
          have HC1 := Lib.hid hC1
          have HV2 := Lib.hid (Kd.R_below HV.out hb2)
          have HB2 := Lib.hid (HB.out.trans (hb2.mono HB.out.size))
          have HO2 := Lib.hid (HO.out.below hb2)
          clear hv hb2 hq1 hC1 c1 c2 HO HB HV
          go_wp2_with (at_builtin; refine appn (w0 := w) .i64 w.heap.size (.tmp 29) (.tmp 32) 72 3 8 rfl rfl Try.underlying72 info_i (by decide) u3 ([0] ++ flagT s.1 9) (nums 38 s.2.1) A1 _ q1 rfl rfl HV2.out HC1.out HB2.out HB2.out.size (by have := HL.out; have := HN1.out; simp; omega) ?_; intro v3 w3 hr3 hb3 hg3; (have HR3 := Lib.hid hr3); (have HB3 := Lib.hid hb3); (have HO3 := Lib.hid (show OB w.heap.size s w3 from blk_grown HO2.out hg3 (own_ne (Kd.own_of_R HV2.out) HO2.out (by decide)))); clear hr3 hb3 hg3 HV2 HC1 HB2 HO2; (have c2 := HO3.out.c2))
          refine (numbers_any 48 s.2.2 _ HR.out.2).mono ?_
          rintro e w4 ⟨v, rfl, hv, hb4⟩
          obtain ⟨A4, q4, rfl, hq4, hC4⟩ := Kd.R_reads hv
          have HC4 := Lib.hid hC4
          have HV4 := Lib.hid (Kd.R_below HR3.out hb4)
          have HB4 := Lib.hid (HB3.out.trans (hb4.mono HB3.out.size))
          clear hv hb4 hq4 hC4 c2 HO3 HB3 HR3
          go_wp2_with (at_builtin; refine appn (w0 := w) .i64 w.heap.size (.tmp 34) (.tmp 37) 72 3 8 rfl rfl Try.underlying72 info_i (by decide) v3 ([0] ++ flagT s.1 9 ++ nums 38 s.2.1) (nums 48 s.2.2) A4 _ q4 rfl rfl HV4.out HC4.out HB4.out HB4.out.size (by have := HL.out; have := HN1.out; have := HN2.out; simp; omega) ?_; intro v5 w5 hr5 hb5 _; (have HR5 := Lib.hid hr5); (have HB5 := Lib.hid hb5); clear hr5 hb5)
          go_ret
          exact ⟨v5, rfl, by rw [HE.out]; exact HR5.out, HB5.out⟩
  · have HE := Lib.hid (show parR s = [] from if_neg hr)
    have hq := fun W => right_any s W
    rw [eq_false_of_ne_true hr] at hq
    have HQ := Lib.hid hq
    have HW := Lib.hid hW
    clear hq hX hW hs hr
    rw [show (Value.agg (stA s)) = .agg #[.int .u8 (s.1 : Int), .int .u32 (s.2.1 : Int), .int .u32 (s.2.2 : Int)] from rfl]
    go_enter Try.func38, Try.ntmps38
    go_wp2_with (go_at_call 40; refine (HQ.out _).mono ?_; rintro e w1 ⟨rfl, hb1⟩; (have HB1 := Lib.hid (HW.out.trans (hb1.mono HW.out.size))); clear hb1 HQ)
    go_ret
    exact ⟨_, rfl, by rw [HE.out]; exact Kd.R_nil _ _ _ _ _, HB1.out⟩
theorem sinfo_u8 : (Try.prog.info? 5).map (fun i => (i.zero, i.size, i.bytes)) = some (some (.int .u8 0), 1, 1) := by kernel_rfl
set_option maxRecDepth 100000 in
set_option maxHeartbeats 3200000 in
theorem write_any (s : Sty) (w : World) :
    Calls Try.prog 31 #[.agg (stA s)] w fun e w' => ∃ v, e = .returned (.tuple #[v, .int .i64 (wrE s)]) ∧ (Kd.int .u8).R 5 w' w.heap.size (fun _ => True) v (wrL s) ∧ Below w.heap.size w w' := by
  have hX := OB.mk w s
  have hW : Below w.heap.size w (w.alloc (.cells (stA s) tS)) := (Below.refl _ _).alloc (Nat.le_refl _) _
  by_cases hr : rightB s = true
  · have HE := Lib.hid (show wrL s = [(s.1 : Int)] ++ putL (s.2.1 : Int) ++ putL (s.2.2 : Int) from if_pos hr)
    have HE2 := Lib.hid (show wrE s = 0 from if_pos hr)
    have hq := fun W => right_any s W
    rw [hr] at hq
    rw [rightB, Bool.and_eq_true] at hr
    have HQ := Lib.hid hq
    have d1 := col_bd hr.1
    have d2 := col_bd hr.2
    have HP1 := Lib.hid (fun w1 => put_ok (s.2.1 : Int) w1 (by omega) (by omega))
    have HP2 := Lib.hid (fun w1 => put_ok (s.2.2 : Int) w1 (by omega) (by omega))
    have HL1 := Lib.hid (putL_len (s.2.1 : Int))
    have HL2 := Lib.hid (putL_len (s.2.2 : Int))
    have z1 : (s.2.1 : Int) < 50331648 := by omega
    have z2 : (s.2.2 : Int) < 50331648 := by omega
    have HX := Lib.hid hX
    have HW := Lib.hid hW
    clear hq hr hX hW d1 d2
    rw [show (Value.agg (stA s)) = .agg #[.int .u8 (s.1 : Int), .int .u32 (s.2.1 : Int), .int .u32 (s.2.2 : Int)] from rfl]
    go_enter Try.func31, Try.ntmps31
    go_upto_region 4 with (go_at_call 40; refine (HQ.out _).mono ?_; rintro e w1 ⟨rfl, hb1⟩; (have HX1 := Lib.hid (HX.out.below hb1)); (have HB1 := Lib.hid (HW.out.trans (hb1.mono HW.out.size))); clear hb1 HQ; (have c0 := HX1.out.c0))
    refine wp_at fun W hW => ?_
    have HO1 := Lib.hid (show (Kd.int .u8).R 5 W w.heap.size (fun _ => True) (.slice (some ⟨w1.heap.size, 0, none⟩) 1 1) [(s.1 : Int)] from hW ▸ R_of_blk (l := [(s.1 : Int)]) (heap_alloc_new _ _) HB1.out.size (by show 1 ≤ maxLen; decide))
    have HB2 := Lib.hid (show Below w.heap.size w W from hW ▸ HB1.out.alloc HB1.out.size _)
    have HX2 := Lib.hid (show OB w.heap.size s W from hW ▸ blk_alloc HX1.out _)
    clear hW c0 HX1 HB1 HX HW
    have c1 := HX2.out.c1
    have c2 := HX2.out.c2
    go_wp2_with fail
    refine wp_loop_rounds 3 ?_
    have x0 : ∀ W : World, (Instr.index 121 (.agg #[.int .u32 (s.2.1 : Int), .int .u32 (s.2.2 : Int)]) (.int .i64 0)).run Try.prog W = .ok (.int .u32 (s.2.1 : Int)) W := fun W => index_arr (n := 2) Try.underlying121 Try.underlying55 rfl (by kernel_rfl) .u32 [s.2.1, s.2.2] rfl 0 (by decide) 0 rfl W
    have x1 : ∀ W : World, (Instr.index 121 (.agg #[.int .u32 (s.2.1 : Int), .int .u32 (s.2.2 : Int)]) (.int .i64 1)).run Try.prog W = .ok (.int .u32 (s.2.2 : Int)) W := fun W => index_arr (n := 2) Try.underlying121 Try.underlying55 rfl (by kernel_rfl) .u32 [s.2.1, s.2.2] rfl 1 (by decide) 1 rfl W
    rw [rounds_succ]
    go_wp2_with fail
    refine (HP1.out _).mono ?_
    rintro e w2 ⟨v, rfl, hv, hb2⟩
    obtain ⟨A1, q1, rfl, hq1, hC1⟩ := Kd.R_reads hv
    have HC1 := Lib.hid hC1
    have HV2 := Lib.hid (Kd.R_below HO1.out hb2)
    have HB3 := Lib.hid (HB2.out.trans (hb2.mono HB2.out.size))
    clear hv hb2 hq1 hC1 c1 c2 HX2 HO1 HB2
    go_wp2_with (at_builtin; refine appn (w0 := w) .u8 w.heap.size (.tmp 32) (.tmp 33) 23 5 1 rfl rfl Try.underlying23 sinfo_u8 (by decide) (.slice (some ⟨w1.heap.size, 0, none⟩) 1 1) [(s.1 : Int)] (putL (s.2.1 : Int)) A1 _ q1 rfl rfl HV2.out HC1.out HB3.out HB3.out.size (by have := HL1.out; simp; omega) ?_; intro v3 w3 hr3 hb3 _; (have HR3 := Lib.hid hr3); (have HB4 := Lib.hid hb3); clear hr3 hb3 HV2 HC1 HB3)
    rw [rounds_succ]
    go_wp2_with fail
    refine (HP2.out _).mono ?_
    rintro e w4 ⟨v, rfl, hv, hb4⟩
    obtain ⟨A4, q4, rfl, hq4, hC4⟩ := Kd.R_reads hv
    have HC4 := Lib.hid hC4
    have HV4 := Lib.hid (Kd.R_below HR3.out hb4)
    have HB5 := Lib.hid (HB4.out.trans (hb4.mono HB4.out.size))
    clear hv hb4 hq4 hC4 HR3 HB4
    go_wp2_with (at_builtin; refine appn (w0 := w) .u8 w.heap.size (.tmp 32) (.tmp 33) 23 5 1 rfl rfl Try.underlying23 sinfo_u8 (by decide) v3 ([(s.1 : Int)] ++ putL (s.2.1 : Int)) (putL (s.2.2 : Int)) A4 _ q4 rfl rfl HV4.out HC4.out HB5.out HB5.out.size (by have := HL1.out; have := HL2.out; simp; omega) ?_; intro v5 w5 hr5 hb5 _; (have HR5 := Lib.hid hr5); (have HB6 := Lib.hid hb5); clear hr5 hb5 HV4 HC4 HB5)
    rw [rounds_succ]
    go_wp2_with fail
    go_ret2
    exact ⟨v5, by rw [HE2.out]; rfl, by rw [HE.out]; exact HR5.out, HB6.out⟩
  · have HE := Lib.hid (show wrL s = [] from if_neg hr)
    have HE2 := Lib.hid (show wrE s = 3 from if_neg hr)
    have hq := fun W => right_any s W
    rw [eq_false_of_ne_true hr] at hq
    have HQ := Lib.hid hq
    have HW := Lib.hid hW
    clear hq hX hW hr
    rw [show (Value.agg (stA s)) = .agg #[.int .u8 (s.1 : Int), .int .u32 (s.2.1 : Int), .int .u32 (s.2.2 : Int)] from rfl]
    go_enter Try.func31, Try.ntmps31
    go_wp2_with (go_at_call 40; refine (HQ.out _).mono ?_; rintro e w1 ⟨rfl, hb1⟩; (have HB1 := Lib.hid (HW.out.trans (hb1.mono HW.out.size))); clear hb1 HQ)
    go_ret2
    exact ⟨_, by rw [HE2.out]; rfl, by rw [HE.out]; exact Kd.R_nil _ _ _ _ _, HB1.out⟩
end Go.Proofs.Ythgdbdhonhkkpaa.St
