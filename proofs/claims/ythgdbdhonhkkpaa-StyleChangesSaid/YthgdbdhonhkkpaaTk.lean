/-
  style: the document's Flags, tell, Params, Write, Read.
-/
import Derived.Test.YthgdbdhonhkkpaaTh
import Derived.Test.YthgdbdhonhkkpaaRb
namespace Go.Proofs.Ythgdbdhonhkkpaa.St
open Go.RowKit Go.Proofs.Ythgdbdhonhkkpaa.L Go.Proofs.Ythgdbdhonhkkpaa.V Go.Proofs.Ythgdbdhonhkkpaa.N Go.Proofs.YthgdbdhonhkkpaaW.PrintWords

theorem flags_step (f i : Nat) : f / 2 ^ i = 2 * (f / 2 ^ (i + 1)) + (if btN f i then 1 else 0) := by
  have e : f / 2 ^ (i + 1) = f / 2 ^ i / 2 := by rw [Nat.div_div_eq_div_mul, Nat.pow_succ]
  rw [e]
  unfold btN
  by_cases h : f / 2 ^ i % 2 = 1
  · rw [decide_eq_true h, if_pos rfl]; omega
  · rw [decide_eq_false h, if_neg (by decide)]; omega
set_option maxRecDepth 100000 in
set_option maxHeartbeats 1600000 in
theorem rflags_any (s : Sty) (w : World) (hs : s.1 < 256) : Calls Try.prog 65 #[.agg (rsA s)] w fun e w' => e = .returned (.int .u8 (s.1 : Int)) ∧ Below w.heap.size w w' := by
  have hx := RO.mk w (blN s.1) s.2.1 s.2.2
  have HX := Lib.hid hx
  have HB := Lib.hid (show Below w.heap.size w (w.alloc (.cells (rfA (blN s.1) s.2.1 s.2.2) tR)) from (Below.refl _ _).alloc (Nat.le_refl _) _)
  have HS := Lib.hid hs
  clear hx hs
  go_enter Try.func65, Try.ntmps65
  go_upto_region 1 with (fail)
  refine wp_at fun W hW => ?_
  have hW2 : W = w.alloc (.cells (rfA (blN s.1) s.2.1 s.2.2) tR) := hW.trans rfl
  rw [← hW2] at HX HB
  clear hW hW2
  go_wp2_with fail
  go_loopg [3, 4] 10 (fun g v3 v4 w' => ∃ (i q : Nat), v3 = .int .u8 (q : Int) ∧ v4 = .int .i64 ((i : Int) - 1) ∧ Hid (i ≤ 8 ∧ i < g) ∧ Hid (q = s.1 / 2 ^ i) ∧ w' = W)
  case atStart => exact ⟨8, 0, rfl, rfl, Lib.hid ⟨by omega, by omega⟩, Lib.hid (by have := HS.out; omega), rfl⟩
  case round =>
    obtain ⟨i, q, rfl, rfl, HJ, HQ, rfl⟩ := hrel
    cases gk with
    | zero => have := HJ.out; omega
    | succ k =>
      cases i with
      | zero =>
        have hq := HQ.out
        rw [Nat.pow_zero, Nat.div_one] at hq
        subst hq
        clear HJ HQ
        go_wp2_with fail
        go_ret
        exact ⟨rfl, HB.out⟩
      | succ i =>
        have hi := HJ.out
        have t1 : decide ((0 : Int) ≤ ((i + 1 : Nat) : Int) - 1) = true := decide_eq_true (by omega)
        have e1 : ((i + 1 : Nat) : Int) - 1 = (i : Int) := by omega
        have c0 := HX.out.cb (blN_len s.1) (show i < 8 by omega)
        rw [blN_get s.1 (show i < 8 by omega)] at c0
        have hst := flags_step s.1 i
        rw [← HQ.out] at hst
        have hlt := Nat.div_le_self s.1 (2 ^ i)
        have h256 := HS.out
        have z0 : (i : Int) < 8 := by omega
        have z1 : (0 : Int) ≤ (i : Int) := by omega
        have z2 : (q : Int) < 128 := by
          have : 2 * q ≤ s.1 / 2 ^ i := by rw [hst]; omega
          omega
        have HI := Lib.hid (show i ≤ 7 ∧ i < k from ⟨by omega, by omega⟩)
        have HST := Lib.hid hst
        rw [e1]
        clear hi hst hlt h256 HJ HQ e1 t1
        cases hb : btN s.1 i with
        | true =>
          rw [hb] at c0 HST
          rw [if_pos rfl] at HST
          clear hb
          go_wp2_with fail
          go_roundg k
          case measure => have := HI.out; omega
          case rel => exact ⟨i, 2 * q + 1, by go_num, by go_num, Lib.hid ⟨by have := HI.out; omega, HI.out.2⟩, Lib.hid HST.out.symm, rfl⟩
        | false =>
          rw [hb] at c0 HST
          rw [if_neg (by decide), Nat.add_zero] at HST
          clear hb
          go_wp2_with fail
          go_roundg k
          case measure => have := HI.out; omega
          case rel => exact ⟨i, 2 * q, by go_num, by go_num, Lib.hid ⟨by have := HI.out; omega, HI.out.2⟩, Lib.hid HST.out.symm, rfl⟩
set_option maxRecDepth 100000 in
set_option maxHeartbeats 1600000 in
theorem tell_any (first : Int) (c : Nat) (w : World) (hc : colB c = true) :
    Calls Try.prog 71 #[.int .i64 first, .int .u32 (c : Int)] w fun e w' => ∃ v, e = .returned v ∧ (Kd.int .i64).R 3 w' w.heap.size (fun _ => True) v (nums first c) ∧ Below w.heap.size w w' := by
  have hb := of_decide_eq_true hc
  clear hc
  obtain ⟨q, hq⟩ : ∃ q : Nat, (c : Int) / 16777216 = (q : Int) := ⟨c / 16777216, by omega⟩
  have z0 : (q : Int) < 256 := by omega
  have z1 : (0 : Int) ≤ (c : Int) := by omega
  have z2 : (c : Int) < 50331648 := by omega
  by_cases h0 : c = 0
  · subst h0
    clear hb hq z0 z1 z2
    go_enter Try.func71, Try.ntmps71
    go_wp2_with fail
    go_ret
    exact ⟨_, rfl, Kd.R_nil _ _ _ _ _, Below.refl _ _⟩
  by_cases h1 : c < 33554432
  · have HE := Lib.hid (show nums first c = [first, 5, (c : Int) - 16777216] from by unfold nums; rw [if_neg h0, if_pos h1])
    have t1 : ((q : Int) == 1) = true := by rw [beq_iff_eq]; omega
    obtain ⟨r, hr⟩ : ∃ r : Nat, (c : Int) % 256 = (r : Int) := ⟨c % 256, by omega⟩
    have z3 : (r : Int) < 256 := by omega
    rw [show (c : Int) - 16777216 = (r : Int) from by omega] at HE
    clear h0 h1 hb
    go_enter Try.func71, Try.ntmps71
    go_wp2_with fail
    go_ret
    refine ⟨_, rfl, ?_, (Below.refl _ _).alloc (Nat.le_refl _) _⟩
    rw [HE.out]
    exact R_of_blk (l := [first, 5, (r : Int)]) (heap_alloc_new _ _) (Nat.le_refl _) (by show 3 ≤ maxLen; decide)
  · have HE := Lib.hid (show nums first c = [first, 2, (c : Int) / 65536 % 256, (c : Int) / 256 % 256, (c : Int) % 256] from by unfold nums; rw [if_neg h0, if_neg h1])
    have t1 : ((q : Int) == 1) = false := by rw [beq_eq_false_iff_ne]; omega
    have t2 : ((q : Int) == 2) = true := by rw [beq_iff_eq]; omega
    obtain ⟨r1, hr1⟩ : ∃ r : Nat, (c : Int) / 65536 % 256 = (r : Int) := ⟨((c : Int) / 65536 % 256).toNat, by omega⟩
    obtain ⟨r2, hr2⟩ : ∃ r : Nat, (c : Int) / 256 % 256 = (r : Int) := ⟨((c : Int) / 256 % 256).toNat, by omega⟩
    obtain ⟨r3, hr3⟩ : ∃ r : Nat, (c : Int) % 256 = (r : Int) := ⟨((c : Int) % 256).toNat, by omega⟩
    have y1 : (r1 : Int) < 256 := by omega
    have y2 : (r2 : Int) < 256 := by omega
    have y3 : (r3 : Int) < 256 := by omega
    rw [hr1, hr2, hr3] at HE
    clear h0 h1 hb
    go_enter Try.func71, Try.ntmps71
    go_wp2_with fail
    go_ret
    refine ⟨_, rfl, ?_, (Below.refl _ _).alloc (Nat.le_refl _) _⟩
    rw [HE.out]
    exact R_of_blk (l := [first, 2, (r1 : Int), (r2 : Int), (r3 : Int)]) (heap_alloc_new _ _) (Nat.le_refl _) (by show 5 ≤ maxLen; decide)
theorem bt_and : ∀ f, f < 256 → ∀ p, p < 8 → decide (f &&& 2 ^ p ≠ 0) = btN f p := by decide +kernel
theorem plN_yes' {n : Int} (h : flagN n ≠ 0) : ∃ p : Nat, plN n = (p : Int) ∧ p < 8 ∧ flagN n = 2 ^ p := by
  have h1 : (1 ≤ n ∧ n ≤ 5) ∨ (7 ≤ n ∧ n ≤ 9) := by
    by_cases h2 : (1 ≤ n ∧ n ≤ 5) ∨ (7 ≤ n ∧ n ≤ 9)
    · exact h2
    · exact absurd (flag_no (by omega)) h
  rcases (show n = 1 ∨ n = 2 ∨ n = 3 ∨ n = 4 ∨ n = 5 ∨ n = 7 ∨ n = 8 ∨ n = 9 from by omega) with h | h | h | h | h | h | h | h <;> subst h
  · exact ⟨0, rfl, by decide, rfl⟩
  · exact ⟨1, rfl, by decide, rfl⟩
  · exact ⟨2, rfl, by decide, rfl⟩
  · exact ⟨3, rfl, by decide, rfl⟩
  · exact ⟨4, rfl, by decide, rfl⟩
  · exact ⟨5, rfl, by decide, rfl⟩
  · exact ⟨6, rfl, by decide, rfl⟩
  · exact ⟨7, rfl, by decide, rfl⟩
theorem plN_no' {n : Int} (h : flagN n = 0) : plN n = -1 := by
  have h1 : ¬ ((1 ≤ n ∧ n ≤ 5) ∨ (7 ≤ n ∧ n ≤ 9)) := fun h2 => flag_yes (by omega) (by omega) (by omega) h
  unfold plN
  rw [if_neg (by omega), if_neg (by omega)]
set_option maxRecDepth 100000 in
set_option maxHeartbeats 3200000 in
theorem rparams_any (s : Sty) (w : World) (hs : okS s) :
    Calls Try.prog 39 #[.agg (rsA s)] w fun e w' => ∃ v, e = .returned v ∧ (Kd.int .i64).R 3 w' w.heap.size (fun _ => True) v (parR s) ∧ Below w.heap.size w w' := by
  have hx := RO.mk w (blN s.1) s.2.1 s.2.2
  have HX := Lib.hid hx
  have HB := Lib.hid (show Below w.heap.size w (w.alloc (.cells (rfA (blN s.1) s.2.1 s.2.2) tR)) from (Below.refl _ _).alloc (Nat.le_refl _) _)
  have HS := Lib.hid hs.1
  have hq := fun W => rright_any s W hs
  clear hx
  by_cases hr : rightB s = true
  · have HE := Lib.hid (show parR s = [0] ++ flagT s.1 9 ++ nums 38 s.2.1 ++ nums 48 s.2.2 from if_pos hr)
    rw [hr] at hq
    rw [rightB, Bool.and_eq_true] at hr
    have HQ := Lib.hid hq
    have HR := Lib.hid hr
    clear hq hr hs
    go_enter Try.func39, Try.ntmps39
    go_upto_region 1 with (fail)
    refine wp_at fun W hW => ?_
    have hW2 : W = w.alloc (.cells (rfA (blN s.1) s.2.1 s.2.2) tR) := hW.trans rfl
    rw [← hW2] at HX HB
    clear hW hW2
    go_wp2_with (first
      | (refine load_obj w.heap.size (rfA (blN s.1) s.2.1 s.2.2) rfl rfl rfl (HX.out.load (blN_len _)) ?_)
      | (go_at_call 35; refine (HQ.out _).mono ?_; rintro e w1 ⟨rfl, hb1⟩; (have HX1 := Lib.hid (HX.out.below hb1)); (have HB1 := Lib.hid (HB.out.trans (hb1.mono HB.out.size))); clear hb1 HQ))
    have ho0 : Hid ((Kd.int .i64).R 3 (w1.alloc (.cells #[.int .i64 0] 3)) w.heap.size (fun _ => True) (.slice (some ⟨w1.heap.size, 0, none⟩) 1 1) ([0] ++ flagT s.1 0)) := Lib.hid (R_of_blk (l := [0]) (heap_alloc_new _ _) HB1.out.size (by show 1 ≤ maxLen; decide))
    go_loopg [3, 4] 11 (fun g v3 v4 w' => ∃ i : Nat, v4 = .int .i64 ((i + 1 : Nat) : Int) ∧ Hid (i ≤ 9 ∧ 10 < g + i) ∧ Hid ((Kd.int .i64).R 3 w' w.heap.size (fun _ => True) v3 ([0] ++ flagT s.1 i)) ∧ Hid (RO w.heap.size (blN s.1) s.2.1 s.2.2 w') ∧ Hid (Below w.heap.size w w'))
    case atStart => exact ⟨0, rfl, Lib.hid ⟨by omega, by omega⟩, ho0, Lib.hid (HX1.out.below ((Below.refl _ _).alloc (Nat.le_refl _) _)), Lib.hid (HB1.out.alloc HB1.out.size _)⟩
    case round =>
      obtain ⟨i, rfl, HJ, HV, HO, HBb⟩ := hrel
      clear ho0 HX1 HB1 HX HB
      cases gk with
      | zero => have := HJ.out; omega
      | succ k =>
        by_cases hi : i < 9
        · have HJ' := Lib.hid (show i < 9 ∧ 10 < (k + 1) + i from ⟨hi, HJ.out.2⟩)
          have HF := Lib.hid (flagT_succ s.1 i)
          have hpl := fun W => place_any ((i + 1 : Nat) : Int) W
          have z1 : ((i + 1 : Nat) : Int) < 10 := by omega
          have z2 : (0 : Int) ≤ ((i + 1 : Nat) : Int) := by omega
          clear hi HJ
          by_cases hf : flagN ((i + 1 : Nat) : Int) = 0
          · rw [if_neg (by rintro ⟨h, _⟩; exact h hf)] at HF
            rw [plN_no' hf] at hpl
            have HPl := Lib.hid hpl
            clear hpl hf
            go_wp2_with (go_at_call 70; refine (HPl.out _).mono ?_; rintro e w1 ⟨rfl, hw1⟩; (rw [hw1]); clear hw1 w1)
            go_roundg k
            case measure => have := HJ'.out; omega
            case rel => exact ⟨i + 1, by go_num, Lib.hid (by have := HJ'.out; omega), Lib.hid (by rw [HF.out]; exact HV.out), HO, HBb⟩
          obtain ⟨p, hp1, hp2, hp3⟩ := plN_yes' hf
          rw [hp1] at hpl
          have HPl := Lib.hid hpl
          have c0 := HO.out.cb (blN_len s.1) hp2
          rw [blN_get s.1 hp2, ← bt_and s.1 HS.out p hp2, ← hp3] at c0
          have z3 : (p : Int) < 8 := by omega
          have z4 : (0 : Int) ≤ (p : Int) := by omega
          clear hpl hp1 hp2 hp3
          by_cases hq : s.1 &&& flagN ((i + 1 : Nat) : Int) = 0
          · rw [if_neg (by rintro ⟨_, h⟩; exact h hq)] at HF
            rw [decide_eq_false (by rw [hq]; decide)] at c0
            clear hf hq
            go_wp2_with (go_at_call 70; refine (HPl.out _).mono ?_; rintro e w1 ⟨rfl, hw1⟩; (rw [hw1]); clear hw1 w1)
            go_roundg k
            case measure => have := HJ'.out; omega
            case rel => exact ⟨i + 1, by go_num, Lib.hid (by have := HJ'.out; omega), Lib.hid (by rw [HF.out]; exact HV.out), HO, HBb⟩
          · rw [if_pos ⟨hf, hq⟩] at HF
            rw [decide_eq_true hq] at c0
            have HL := Lib.hid (flagT_len s.1 i)
            clear hf hq
            go_wp2_with (first
              | (go_at_call 70; refine (HPl.out _).mono ?_; rintro e w1 ⟨rfl, hw1⟩; (rw [hw1]); clear hw1 w1)
              | (at_builtin; refine app1 (w0 := w) .i64 w.heap.size (.tmp 23) (.tmp 25) 72 3 8 rfl rfl Try.underlying72 info_i (by decide) u3 ([0] ++ flagT s.1 i) ((i + 1 : Nat) : Int) rfl rfl HV.out HBb.out HBb.out.size (by have := HL.out; have := HJ'.out; simp; omega) ?_; intro v8 w8 hr8 hb8 hg8; (have HR8 := Lib.hid hr8); (have HB8 := Lib.hid hb8); (have HG8 := Lib.hid hg8); clear hr8 hb8 hg8))
            go_roundg k
            case measure => have := HJ'.out; omega
            case rel => exact ⟨i + 1, by go_num, Lib.hid (by have := HJ'.out; omega), Lib.hid (by rw [HF.out, ← List.append_assoc]; exact HR8.out), Lib.hid (blk_grown HO.out HG8.out (own_ne (Kd.own_of_R HV.out) HO.out (by decide))), HB8⟩
        · obtain rfl : i = 9 := by have := HJ.out; omega
          have c8 := HO.out.c8 (blN_len _)
          clear hi HJ
          have HL := Lib.hid (flagT_len s.1 9)
          have HN1 := Lib.hid (nums_len 38 s.2.1)
          have HN2 := Lib.hid (nums_len 48 s.2.2)
          go_wp2_with fail
          refine (tell_any 38 s.2.1 _ HR.out.1).mono ?_
          rintro e w2 ⟨v, rfl, hv, hb2⟩
          obtain ⟨A1, q1, rfl, hq1, hC1⟩ := Kd.R_reads hv
          have HC1 := Lib.hid hC1
          have HV2 := Lib.hid (Kd.R_below HV.out hb2)
          have HB2 := Lib.hid (HBb.out.trans (hb2.mono HBb.out.size))
          have HO2 := Lib.hid (HO.out.below hb2)
          clear hv hb2 hq1 hC1 c8 HO HBb HV
          go_wp2_with (at_builtin; refine appn (w0 := w) .i64 w.heap.size (.tmp 27) (.tmp 30) 72 3 8 rfl rfl Try.underlying72 info_i (by decide) u3 ([0] ++ flagT s.1 9) (nums 38 s.2.1) A1 _ q1 rfl rfl HV2.out HC1.out HB2.out HB2.out.size (by have := HL.out; have := HN1.out; simp; omega) ?_; intro v3 w3 hr3 hb3 hg3; (have HR3 := Lib.hid hr3); (have HB3 := Lib.hid hb3); (have HO3 := Lib.hid (show RO w.heap.size (blN s.1) s.2.1 s.2.2 w3 from blk_grown HO2.out hg3 (own_ne (Kd.own_of_R HV2.out) HO2.out (by decide)))); clear hr3 hb3 hg3 HV2 HC1 HB2 HO2; (have c9 := HO3.out.c9 (blN_len _)))
          refine (tell_any 48 s.2.2 _ HR.out.2).mono ?_
          rintro e w4 ⟨v, rfl, hv, hb4⟩
          obtain ⟨A4, q4, rfl, hq4, hC4⟩ := Kd.R_reads hv
          have HC4 := Lib.hid hC4
          have HV4 := Lib.hid (Kd.R_below HR3.out hb4)
          have HB4 := Lib.hid (HB3.out.trans (hb4.mono HB3.out.size))
          clear hv hb4 hq4 hC4 c9 HO3 HB3 HR3
          go_wp2_with (at_builtin; refine appn (w0 := w) .i64 w.heap.size (.tmp 32) (.tmp 35) 72 3 8 rfl rfl Try.underlying72 info_i (by decide) v3 ([0] ++ flagT s.1 9 ++ nums 38 s.2.1) (nums 48 s.2.2) A4 _ q4 rfl rfl HV4.out HC4.out HB4.out HB4.out.size (by have := HL.out; have := HN1.out; have := HN2.out; simp; omega) ?_; intro v5 w5 hr5 hb5 _; (have HR5 := Lib.hid hr5); (have HB5 := Lib.hid hb5); clear hr5 hb5)
          go_ret
          exact ⟨v5, rfl, by rw [HE.out]; exact HR5.out, HB5.out⟩
  · have HE := Lib.hid (show parR s = [] from if_neg hr)
    rw [eq_false_of_ne_true hr] at hq
    have HQ := Lib.hid hq
    clear hq hs hr
    go_enter Try.func39, Try.ntmps39
    go_upto_region 1 with (fail)
    refine wp_at fun W hW => ?_
    have hW2 : W = w.alloc (.cells (rfA (blN s.1) s.2.1 s.2.2) tR) := hW.trans rfl
    rw [← hW2] at HX HB
    clear hW hW2
    go_wp2_with (first
      | (refine load_obj w.heap.size (rfA (blN s.1) s.2.1 s.2.2) rfl rfl rfl (HX.out.load (blN_len _)) ?_)
      | (go_at_call 35; refine (HQ.out _).mono ?_; rintro e w1 ⟨rfl, hb1⟩; (have HB1 := Lib.hid (HB.out.trans (hb1.mono HB.out.size))); clear hb1 HQ))
    go_ret
    exact ⟨_, rfl, by rw [HE.out]; exact Kd.R_nil _ _ _ _ _, HB1.out⟩
set_option maxRecDepth 100000 in
set_option maxHeartbeats 3200000 in
theorem rwrite_any (s : Sty) (w : World) (hs : okS s) (hr : rightB s = true) :
    Calls Try.prog 36 #[.agg (rsA s)] w fun e w' => ∃ v, e = .returned v ∧ (Kd.int .u8).R 5 w' w.heap.size (fun _ => True) v (wrL s) ∧ Below w.heap.size w w' := by
  have hx := RO.mk w (blN s.1) s.2.1 s.2.2
  have HX := Lib.hid hx
  have HB := Lib.hid (show Below w.heap.size w (w.alloc (.cells (rfA (blN s.1) s.2.1 s.2.2) tR)) from (Below.refl _ _).alloc (Nat.le_refl _) _)
  have HE := Lib.hid (show wrL s = [(s.1 : Int)] ++ putL (s.2.1 : Int) ++ putL (s.2.2 : Int) from if_pos hr)
  have HQ := Lib.hid (fun W => rflags_any s W hs.1)
  have HL1 := Lib.hid (putL_len (s.2.1 : Int))
  have HL2 := Lib.hid (putL_len (s.2.2 : Int))
  have z1 : (s.2.1 : Int) < 4294967296 := by have := hs.2.1; omega
  have z2 : (s.2.2 : Int) < 4294967296 := by have := hs.2.2; omega
  clear hx hr hs
  go_enter Try.func36, Try.ntmps36
  go_upto_region 1 with (fail)
  refine wp_at fun W hW => ?_
  have hW2 : W = w.alloc (.cells (rfA (blN s.1) s.2.1 s.2.2) tR) := hW.trans rfl
  rw [← hW2] at HX HB
  clear hW hW2
  go_upto_region 2 with (first
    | (refine load_obj w.heap.size (rfA (blN s.1) s.2.1 s.2.2) rfl rfl rfl (HX.out.load (blN_len _)) ?_)
    | (go_at_call 65; refine (HQ.out _).mono ?_; rintro e w1 ⟨rfl, hb1⟩; (have HX1 := Lib.hid (HX.out.below hb1)); (have HB1 := Lib.hid (HB.out.trans (hb1.mono HB.out.size))); clear hb1 HQ))
  refine wp_at fun W2 hW => ?_
  have HO1 := Lib.hid (show (Kd.int .u8).R 5 W2 w.heap.size (fun _ => True) (.slice (some ⟨w1.heap.size, 0, none⟩) 1 1) [(s.1 : Int)] from hW ▸ R_of_blk (l := [(s.1 : Int)]) (heap_alloc_new _ _) HB1.out.size (by show 1 ≤ maxLen; decide))
  have HB2 := Lib.hid (show Below w.heap.size w W2 from hW ▸ HB1.out.alloc HB1.out.size _)
  have HX2 := Lib.hid (show RO w.heap.size (blN s.1) s.2.1 s.2.2 W2 from hW ▸ blk_alloc HX1.out _)
  clear hW HX1 HB1 HX HB
  have c8 := HX2.out.c8 (blN_len _)
  go_wp2_with fail
  refine (rput_any (s.2.1 : Int) _ (by omega)).mono ?_
  rintro e w3 ⟨v, rfl, hv, hb3⟩
  obtain ⟨A1, q1, rfl, hq1, hC1⟩ := Kd.R_reads hv
  have HC1 := Lib.hid hC1
  have HV3 := Lib.hid (Kd.R_below HO1.out hb3)
  have HB3 := Lib.hid (HB2.out.trans (hb3.mono HB2.out.size))
  have HX3 := Lib.hid (HX2.out.below hb3)
  clear hv hb3 hq1 hC1 c8 HX2 HO1 HB2
  go_wp2_with (at_builtin; refine appn (w0 := w) .u8 w.heap.size (.tmp 7) (.tmp 11) 23 5 1 rfl rfl Try.underlying23 sinfo_u8 (by decide) (.slice (some ⟨w1.heap.size, 0, none⟩) 1 1) [(s.1 : Int)] (putL (s.2.1 : Int)) A1 _ q1 rfl rfl HV3.out HC1.out HB3.out HB3.out.size (by have := HL1.out; simp; omega) ?_; intro v4 w4 hr4 hb4 hg4; (have HR4 := Lib.hid hr4); (have HB4 := Lib.hid hb4); (have HX4 := Lib.hid (show RO w.heap.size (blN s.1) s.2.1 s.2.2 w4 from blk_grown HX3.out hg4 (own_ne (Kd.own_of_R HV3.out) HX3.out (by decide)))); clear hr4 hb4 hg4 HV3 HC1 HB3 HX3; (have c9 := HX4.out.c9 (blN_len _)))
  refine (rput_any (s.2.2 : Int) _ (by omega)).mono ?_
  rintro e w5 ⟨v, rfl, hv, hb5⟩
  obtain ⟨A5, q5, rfl, hq5, hC5⟩ := Kd.R_reads hv
  have HC5 := Lib.hid hC5
  have HV5 := Lib.hid (Kd.R_below HR4.out hb5)
  have HB5 := Lib.hid (HB4.out.trans (hb5.mono HB4.out.size))
  clear hv hb5 hq5 hC5 c9 HX4 HR4 HB4
  go_wp2_with (at_builtin; refine appn (w0 := w) .u8 w.heap.size (.tmp 13) (.tmp 17) 23 5 1 rfl rfl Try.underlying23 sinfo_u8 (by decide) v4 ([(s.1 : Int)] ++ putL (s.2.1 : Int)) (putL (s.2.2 : Int)) A5 _ q5 rfl rfl HV5.out HC5.out HB5.out HB5.out.size (by have := HL1.out; have := HL2.out; simp; omega) ?_; intro v6 w6 hr6 hb6 _; (have HR6 := Lib.hid hr6); (have HB6 := Lib.hid hb6); clear hr6 hb6 HV5 HC5 HB5)
  go_ret
  exact ⟨v6, rfl, by rw [HE.out]; exact HR6.out, HB6.out⟩
def rdW (r : Sty × Int × Int) : Ending := .returned (.tuple #[.agg (rsA r.1), .int .i64 r.2.1, .int .i64 r.2.2])
set_option maxRecDepth 100000 in
set_option maxHeartbeats 3200000 in
theorem rread_any (l : List Int) (A : Option Addr) (c : Nat) (i : Int) (w : World) (hC : (Kd.int .u8).C w A l.length l) (hc : l.length ≤ c) (hb : okB l) :
    Calls Try.prog 33 #[.slice A l.length c, .int .i64 i] w fun e w' => e = rdW (rdR l i) ∧ Below w.heap.size w w' := by
  have HX := Lib.hid (RO.mk w f8 0 0)
  have HW := Lib.hid (show Below w.heap.size w (w.alloc (.cells (rfA f8 0 0) tR)) from (Below.refl _ _).alloc (Nat.le_refl _) _)
  have hmx := (C_open hC).1
  by_cases h0 : i < 0 ∨ (l.length : Int) < i
  · have HE := Lib.hid (show rdR l i = ((0, 0, 0), 0, 1) from if_pos h0)
    clear hC hc hb hmx
    rcases h0 with h0 | h0
    · have t1 : decide (i < 0) = true := decide_eq_true h0
      clear h0
      go_enter Try.func33, Try.ntmps33
      go_upto_region 1 with (fail)
      refine wp_at fun W hW => ?_
      have hW2 : W = w.alloc (.cells (rfA f8 0 0) tR) := hW.trans rfl
      rw [← hW2] at HX HW
      clear hW hW2
      go_wp2_with (refine store_obj w.heap.size (rfA f8 0 0) (rfA f8 0 0) rfl rfl rfl rfl rfl HX.out (by rw [rfA_size rfl]; exact info_R) rfl (rfA_one _ _ _) ?_; intro w9 h9 hg9; (have H9 := Lib.hid (show RO w.heap.size f8 0 0 w9 from h9)); (have HB9 := Lib.hid (below_grown HW.out HW.out.size hg9 (Nat.le_refl _))); clear h9 hg9)
      have hl := H9.out.load rfl
      exact bodyPost_ret (v := .tuple #[.agg (rsA (0, 0, 0)), .int .i64 0, .int .i64 1]) (by simp [results, Try.results33, asAddr]; exact (congrArg (fun r => Result.andThen r _) hl).trans rfl) rfl ⟨by rw [HE.out]; rfl, HB9.out⟩
    · have t1 : decide (i < 0) = false := decide_eq_false (by omega)
      have t2 : decide ((l.length : Int) < i) = true := decide_eq_true h0
      clear h0
      go_enter Try.func33, Try.ntmps33
      go_upto_region 1 with (fail)
      refine wp_at fun W hW => ?_
      have hW2 : W = w.alloc (.cells (rfA f8 0 0) tR) := hW.trans rfl
      rw [← hW2] at HX HW
      clear hW hW2
      go_wp2_with (refine store_obj w.heap.size (rfA f8 0 0) (rfA f8 0 0) rfl rfl rfl rfl rfl HX.out (by rw [rfA_size rfl]; exact info_R) rfl (rfA_one _ _ _) ?_; intro w9 h9 hg9; (have H9 := Lib.hid (show RO w.heap.size f8 0 0 w9 from h9)); (have HB9 := Lib.hid (below_grown HW.out HW.out.size hg9 (Nat.le_refl _))); clear h9 hg9)
      have hl := H9.out.load rfl
      exact bodyPost_ret (v := .tuple #[.agg (rsA (0, 0, 0)), .int .i64 0, .int .i64 1]) (by simp [results, Try.results33, asAddr]; exact (congrArg (fun r => Result.andThen r _) hl).trans rfl) rfl ⟨by rw [HE.out]; rfl, HB9.out⟩
  obtain ⟨m, rfl⟩ := Int.eq_ofNat_of_zero_le (show 0 ≤ i by omega)
  have t1 : decide ((m : Int) < 0) = false := decide_eq_false (by omega)
  by_cases h1 : m = l.length
  · subst h1
    have HE := Lib.hid (show rdR l (l.length : Int) = ((0, 0, 0), 0, 10) from by unfold rdR; rw [if_neg h0, if_pos rfl])
    have t2 : decide ((l.length : Int) < (l.length : Int)) = false := decide_eq_false (by omega)
    clear hC hc hb hmx h0
    go_enter Try.func33, Try.ntmps33
    go_upto_region 1 with (fail)
    refine wp_at fun W hW => ?_
    have hW2 : W = w.alloc (.cells (rfA f8 0 0) tR) := hW.trans rfl
    rw [← hW2] at HX HW
    clear hW hW2
    go_wp2_with (refine store_obj w.heap.size (rfA f8 0 0) (rfA f8 0 0) rfl rfl rfl rfl rfl HX.out (by rw [rfA_size rfl]; exact info_R) rfl (rfA_one _ _ _) ?_; intro w9 h9 hg9; (have H9 := Lib.hid (show RO w.heap.size f8 0 0 w9 from h9)); (have HB9 := Lib.hid (below_grown HW.out HW.out.size hg9 (Nat.le_refl _))); clear h9 hg9)
    have hl := H9.out.load rfl
    exact bodyPost_ret (v := .tuple #[.agg (rsA (0, 0, 0)), .int .i64 0, .int .i64 10]) (by simp [results, Try.results33, asAddr]; exact (congrArg (fun r => Result.andThen r _) hl).trans rfl) rfl ⟨by rw [HE.out]; rfl, HB9.out⟩
  have hm : m < l.length := by omega
  have hR : rdR l (m : Int) = if (getR l ((m : Int) + 1)).2.2 ≠ 0 then ((0, 0, 0), 0, (getR l ((m : Int) + 1)).2.2) else if (getR l (getR l ((m : Int) + 1)).2.1).2.2 ≠ 0 then ((0, 0, 0), 0, (getR l (getR l ((m : Int) + 1)).2.1).2.2)
      else if 50331647 < (getR l ((m : Int) + 1)).1 ∨ 50331647 < (getR l (getR l ((m : Int) + 1)).2.1).1 then ((0, 0, 0), 0, 3)
      else if rightB ((l.getD m 0).toNat, (getR l ((m : Int) + 1)).1.toNat, (getR l (getR l ((m : Int) + 1)).2.1).1.toNat) then (((l.getD m 0).toNat, (getR l ((m : Int) + 1)).1.toNat, (getR l (getR l ((m : Int) + 1)).2.1).1.toNat), (getR l (getR l ((m : Int) + 1)).2.1).2.1, 0)
      else ((0, 0, 0), 0, 3) := by
    unfold rdR
    rw [if_neg h0, if_neg (by omega)]
    rfl
  have t2 : decide ((l.length : Int) < (m : Int)) = false := decide_eq_false (by omega)
  have t2n : decide (l.length < m) = false := decide_eq_false (by omega)
  have t3 : ((m : Int) == (l.length : Int)) = false := by rw [beq_eq_false_iff_ne]; omega
  have t3n : (m == l.length) = false := by rw [beq_eq_false_iff_ne]; omega
  have z1 : (m : Int) < (l.length : Int) := by omega
  have z2 : (l.length : Int) ≤ 9223372036854775807 := by omega
  have z3 : (0 : Int) ≤ (m : Int) := by omega
  obtain ⟨b, off, rfl, hbl, hcell⟩ := (C_open hC).2.resolve_left (fun h => by rw [h] at hm; simp at hm)
  have cx := hcell m hm
  have hx := hb.at_ m
  obtain ⟨x, hx2⟩ : ∃ x : Nat, l.getD m 0 = (x : Int) := ⟨(l.getD m 0).toNat, by omega⟩
  rw [hx2] at cx hx
  have HG := Lib.hid (fun (W : World) (j : Int) (h : Below w.heap.size w W) => rget_any l (some ⟨b, off, none⟩) c j W (Kd.C_below hC h) hc hb)
  have hbd1 := getR_bd hb ((m : Int) + 1)
  have hbd2 := getR_bd hb (getR l ((m : Int) + 1)).2.1
  clear hC hc hb hcell hmx h0 h1
  obtain ⟨p1, hp1⟩ : ∃ p, getR l ((m : Int) + 1) = p := ⟨_, rfl⟩
  have hq1 := fun W h => HG.out W ((m : Int) + 1) h
  rw [hp1] at hR hbd1 hbd2 hq1
  obtain ⟨v1, n1, e1⟩ := p1
  dsimp only at hR hbd1 hbd2
  obtain ⟨V1, rfl⟩ := Int.eq_ofNat_of_zero_le hbd1.1
  have HQ1 := Lib.hid hq1
  simp only [getV] at HQ1
  clear hq1 hp1
  obtain ⟨p2, hp2⟩ : ∃ p, getR l n1 = p := ⟨_, rfl⟩
  have hq2 := fun W h => HG.out W n1 h
  rw [hp2] at hR hbd2 hq2
  obtain ⟨v2, n2, e2⟩ := p2
  dsimp only at hR hbd2
  obtain ⟨V2, rfl⟩ := Int.eq_ofNat_of_zero_le hbd2.1
  have HQ2 := Lib.hid hq2
  simp only [getV] at HQ2
  clear hq2 hp2 HG
  rw [hx2, Int.toNat_natCast, Int.toNat_natCast, Int.toNat_natCast] at hR
  by_cases he1 : e1 ≠ 0
  · rw [if_pos he1] at hR
    have HE := Lib.hid hR
    have t4 : (e1 != 0) = true := by rw [bne_iff_ne]; exact he1
    clear hR he1 hbd1 hbd2 HQ2 cx hx hx2 hm hbl
    go_enter Try.func33, Try.ntmps33
    go_upto_region 1 with (fail)
    refine wp_at fun W hW => ?_
    have hW2 : W = w.alloc (.cells (rfA f8 0 0) tR) := hW.trans rfl
    rw [← hW2] at HX HW
    clear hW hW2
    go_wp2_with (first | (go_at_call 61; refine (HQ1.out _ HW.out).mono ?_; rintro e w1 ⟨rfl, hb1⟩; (have HB1 := Lib.hid (HW.out.trans (hb1.mono HW.out.size))); (have HX1 := Lib.hid (HX.out.below hb1)); clear hb1 HQ1) | (refine store_obj w.heap.size (rfA f8 0 0) (rfA f8 0 0) rfl rfl rfl rfl rfl HX1.out (by rw [rfA_size rfl]; exact info_R) rfl (rfA_one _ _ _) ?_; intro w9 h9 hg9; (have H9 := Lib.hid (show RO w.heap.size f8 0 0 w9 from h9)); (have HB9 := Lib.hid (below_grown HB1.out HB1.out.size hg9 (Nat.le_refl _))); clear h9 hg9))
    have hl := H9.out.load rfl
    exact bodyPost_ret (v := .tuple #[.agg (rsA (0, 0, 0)), .int .i64 0, .int .i64 e1]) (by simp [results, Try.results33, asAddr]; exact (congrArg (fun r => Result.andThen r _) hl).trans rfl) rfl ⟨by rw [HE.out]; rfl, HB9.out⟩
  rw [if_neg he1] at hR
  obtain rfl : e1 = 0 := Classical.not_not.1 he1
  clear he1
  by_cases he2 : e2 ≠ 0
  · rw [if_pos he2] at hR
    have HE := Lib.hid hR
    have t4 : (e2 != 0) = true := by rw [bne_iff_ne]; exact he2
    clear hR he2 hbd1 hbd2 cx hx hx2 hm hbl
    go_enter Try.func33, Try.ntmps33
    go_upto_region 1 with (fail)
    refine wp_at fun W hW => ?_
    have hW2 : W = w.alloc (.cells (rfA f8 0 0) tR) := hW.trans rfl
    rw [← hW2] at HX HW
    clear hW hW2
    go_upto_region 8 with (go_at_call 61; refine (HQ1.out _ HW.out).mono ?_; rintro e w1 ⟨rfl, hb1⟩; (have HB1 := Lib.hid (HW.out.trans (hb1.mono HW.out.size))); (have HX1 := Lib.hid (HX.out.below hb1)); clear hb1 HQ1)
    go_wp2_with (first | (go_at_call 61; refine (HQ2.out _ HB1.out).mono ?_; rintro e w2 ⟨rfl, hb1⟩; (have HB2 := Lib.hid (HB1.out.trans (hb1.mono HB1.out.size))); (have HX2 := Lib.hid (HX1.out.below hb1)); clear hb1 HQ2) | (refine store_obj w.heap.size (rfA f8 0 0) (rfA f8 0 0) rfl rfl rfl rfl rfl HX2.out (by rw [rfA_size rfl]; exact info_R) rfl (rfA_one _ _ _) ?_; intro w9 h9 hg9; (have H9 := Lib.hid (show RO w.heap.size f8 0 0 w9 from h9)); (have HB9 := Lib.hid (below_grown HB2.out HB2.out.size hg9 (Nat.le_refl _))); clear h9 hg9))
    have hl := H9.out.load rfl
    exact bodyPost_ret (v := .tuple #[.agg (rsA (0, 0, 0)), .int .i64 0, .int .i64 e2]) (by simp [results, Try.results33, asAddr]; exact (congrArg (fun r => Result.andThen r _) hl).trans rfl) rfl ⟨by rw [HE.out]; rfl, HB9.out⟩
  rw [if_neg he2] at hR
  obtain rfl : e2 = 0 := Classical.not_not.1 he2
  clear he2
  by_cases hf : 50331647 < V1
  · rw [if_pos (.inl (by omega))] at hR
    have HE := Lib.hid hR
    have t4 : decide ((50331647 : Int) < (V1 : Int)) = true := decide_eq_true (by omega)
    have t4n : decide (50331647 < V1) = true := decide_eq_true hf
    clear hR hf hbd1 hbd2 cx hx hx2 hm hbl
    go_enter Try.func33, Try.ntmps33
    go_upto_region 1 with (fail)
    refine wp_at fun W hW => ?_
    have hW2 : W = w.alloc (.cells (rfA f8 0 0) tR) := hW.trans rfl
    rw [← hW2] at HX HW
    clear hW hW2
    go_upto_region 8 with (go_at_call 61; refine (HQ1.out _ HW.out).mono ?_; rintro e w1 ⟨rfl, hb1⟩; (have HB1 := Lib.hid (HW.out.trans (hb1.mono HW.out.size))); (have HX1 := Lib.hid (HX.out.below hb1)); clear hb1 HQ1)
    go_wp2_with (first | (go_at_call 61; refine (HQ2.out _ HB1.out).mono ?_; rintro e w2 ⟨rfl, hb1⟩; (have HB2 := Lib.hid (HB1.out.trans (hb1.mono HB1.out.size))); (have HX2 := Lib.hid (HX1.out.below hb1)); clear hb1 HQ2) | (refine store_obj w.heap.size (rfA f8 0 0) (rfA f8 0 0) rfl rfl rfl rfl rfl HX2.out (by rw [rfA_size rfl]; exact info_R) rfl (rfA_one _ _ _) ?_; intro w9 h9 hg9; (have H9 := Lib.hid (show RO w.heap.size f8 0 0 w9 from h9)); (have HB9 := Lib.hid (below_grown HB2.out HB2.out.size hg9 (Nat.le_refl _))); clear h9 hg9))
    have hl := H9.out.load rfl
    exact bodyPost_ret (v := .tuple #[.agg (rsA (0, 0, 0)), .int .i64 0, .int .i64 3]) (by simp [results, Try.results33, asAddr]; exact (congrArg (fun r => Result.andThen r _) hl).trans rfl) rfl ⟨by rw [HE.out]; rfl, HB9.out⟩
  have t4 : decide ((50331647 : Int) < (V1 : Int)) = false := decide_eq_false (by omega)
  have t4n : decide (50331647 < V1) = false := decide_eq_false hf
  by_cases hf2 : 50331647 < V2
  · rw [if_pos (.inr (by omega))] at hR
    have HE := Lib.hid hR
    have t5 : decide ((50331647 : Int) < (V2 : Int)) = true := decide_eq_true (by omega)
    have t5n : decide (50331647 < V2) = true := decide_eq_true hf2
    clear hR hf hf2 hbd1 hbd2 cx hx hx2 hm hbl
    go_enter Try.func33, Try.ntmps33
    go_upto_region 1 with (fail)
    refine wp_at fun W hW => ?_
    have hW2 : W = w.alloc (.cells (rfA f8 0 0) tR) := hW.trans rfl
    rw [← hW2] at HX HW
    clear hW hW2
    go_upto_region 8 with (go_at_call 61; refine (HQ1.out _ HW.out).mono ?_; rintro e w1 ⟨rfl, hb1⟩; (have HB1 := Lib.hid (HW.out.trans (hb1.mono HW.out.size))); (have HX1 := Lib.hid (HX.out.below hb1)); clear hb1 HQ1)
    go_wp2_with (first | (go_at_call 61; refine (HQ2.out _ HB1.out).mono ?_; rintro e w2 ⟨rfl, hb1⟩; (have HB2 := Lib.hid (HB1.out.trans (hb1.mono HB1.out.size))); (have HX2 := Lib.hid (HX1.out.below hb1)); clear hb1 HQ2) | (refine store_obj w.heap.size (rfA f8 0 0) (rfA f8 0 0) rfl rfl rfl rfl rfl HX2.out (by rw [rfA_size rfl]; exact info_R) rfl (rfA_one _ _ _) ?_; intro w9 h9 hg9; (have H9 := Lib.hid (show RO w.heap.size f8 0 0 w9 from h9)); (have HB9 := Lib.hid (below_grown HB2.out HB2.out.size hg9 (Nat.le_refl _))); clear h9 hg9))
    have hl := H9.out.load rfl
    exact bodyPost_ret (v := .tuple #[.agg (rsA (0, 0, 0)), .int .i64 0, .int .i64 3]) (by simp [results, Try.results33, asAddr]; exact (congrArg (fun r => Result.andThen r _) hl).trans rfl) rfl ⟨by rw [HE.out]; rfl, HB9.out⟩
  have t5 : decide ((50331647 : Int) < (V2 : Int)) = false := decide_eq_false (by omega)
  have t5n : decide (50331647 < V2) = false := decide_eq_false hf2
  rw [if_neg (by omega)] at hR
  have hxl : x < 256 := by omega
  have HOk := Lib.hid (show okS (x, V1, V2) from ⟨hxl, by dsimp only; omega, by dsimp only; omega⟩)
  have y1 : (V1 : Int) ≤ 50331647 := by omega
  have y2 : (V2 : Int) ≤ 50331647 := by omega
  have HCx := Lib.hid cx
  have HBl := Lib.hid hbl
  have HRr := Lib.hid (fun W => rright_any (x, V1, V2) W HOk.out)
  clear hbd1 hbd2 cx hx hx2 hm hbl hf hf2 hxl
  by_cases hr : rightB (x, V1, V2) = true
  · rw [if_pos hr] at hR
    have HE := Lib.hid hR
    have hq := fun W => HRr.out W
    rw [hr] at hq
    have HQ := Lib.hid hq
    clear hq hr hR HRr
    go_enter Try.func33, Try.ntmps33
    go_upto_region 1 with (fail)
    refine wp_at fun W hW => ?_
    have hW2 : W = w.alloc (.cells (rfA f8 0 0) tR) := hW.trans rfl
    rw [← hW2] at HX HW
    clear hW hW2
    go_upto_region 8 with (go_at_call 61; refine (HQ1.out _ HW.out).mono ?_; rintro e w1 ⟨rfl, hb1⟩; (have HB1 := Lib.hid (HW.out.trans (hb1.mono HW.out.size))); (have HX1 := Lib.hid (HX.out.below hb1)); clear hb1 HQ1)
    go_upto_region 13 with (go_at_call 61; refine (HQ2.out _ HB1.out).mono ?_; rintro e w2 ⟨rfl, hb1⟩; (have HB2 := Lib.hid (HB1.out.trans (hb1.mono HB1.out.size))); (have HX2 := Lib.hid (HX1.out.below hb1)); clear hb1 HQ2)
    have cx := (HB2.out.cell (p := ⟨b, off + m, none⟩) HBl.out).trans HCx.out
    go_wp2_with (first | (go_at_call 63; refine (rof_any x V1 V2 _ HOk.out.1).mono ?_; rintro e w3 ⟨rfl, hb1⟩; (have HB3 := Lib.hid (HB2.out.trans (hb1.mono HB2.out.size))); (have HX3 := Lib.hid (HX2.out.below hb1)); clear hb1 cx) | (refine store_obj w3.heap.size (rfA f8 0 0) (rsA (x, V1, V2)) rfl rfl rfl rfl rfl (RO.mk w3 f8 0 0) (by rw [rsA, rfA_size (blN_len _)]; exact info_R) (by rw [rsA, rfA_size (blN_len _), rfA_size rfl]) (rfA_one _ _ _) ?_; intro w5 h5 hg5; (have H5 := Lib.hid (show RO w3.heap.size (blN x) V1 V2 w5 from h5)); (have HX5 := Lib.hid ((HX3.out.below ((Below.refl _ _).alloc (Nat.le_refl _) _)).grown hg5 (by have := HX3.out.lt; omega))); (have HB5 := Lib.hid (below_grown (HB3.out.alloc HB3.out.size _) (HB3.out.alloc HB3.out.size _).size hg5 HB3.out.size)); clear h5 hg5 HX3 HB3) | (refine load_obj w3.heap.size (rfA (blN x) V1 V2) rfl rfl rfl (H6.out.load (blN_len _)) ?_) | (refine load_obj w3.heap.size (rfA (blN x) V1 V2) rfl rfl rfl (H5.out.load (blN_len _)) ?_) | (go_at_call 35; refine (HQ.out _).mono ?_; rintro e w6 ⟨rfl, hb1⟩; (have H6 := Lib.hid (H5.out.below hb1)); (have HX6 := Lib.hid (HX5.out.below hb1)); (have HB6 := Lib.hid (HB5.out.trans (hb1.mono HB5.out.size))); clear hb1 HQ) | (refine store_obj w.heap.size (rfA f8 0 0) (rfA (blN x) V1 V2) rfl rfl rfl rfl rfl HX6.out (by rw [rfA_size (blN_len _)]; exact info_R) (by rw [rfA_size (blN_len _), rfA_size rfl]) (rfA_one _ _ _) ?_; intro w9 h9 hg9; (have H9 := Lib.hid (show RO w.heap.size (blN x) V1 V2 w9 from h9)); (have HB9 := Lib.hid (below_grown HB6.out HB6.out.size hg9 (Nat.le_refl _))); clear h9 hg9))
    have hl := H9.out.load (blN_len _)
    exact bodyPost_ret (v := .tuple #[.agg (rsA (x, V1, V2)), .int .i64 n2, .int .i64 0]) (by simp [results, Try.results33, asAddr]; exact (congrArg (fun r => Result.andThen r _) hl).trans rfl) rfl ⟨by rw [HE.out]; rfl, HB9.out⟩
  · rw [if_neg hr] at hR
    have HE := Lib.hid hR
    have hq := fun W => HRr.out W
    rw [eq_false_of_ne_true hr] at hq
    have HQ := Lib.hid hq
    clear hq hr hR HRr
    go_enter Try.func33, Try.ntmps33
    go_upto_region 1 with (fail)
    refine wp_at fun W hW => ?_
    have hW2 : W = w.alloc (.cells (rfA f8 0 0) tR) := hW.trans rfl
    rw [← hW2] at HX HW
    clear hW hW2
    go_upto_region 8 with (go_at_call 61; refine (HQ1.out _ HW.out).mono ?_; rintro e w1 ⟨rfl, hb1⟩; (have HB1 := Lib.hid (HW.out.trans (hb1.mono HW.out.size))); (have HX1 := Lib.hid (HX.out.below hb1)); clear hb1 HQ1)
    go_upto_region 13 with (go_at_call 61; refine (HQ2.out _ HB1.out).mono ?_; rintro e w2 ⟨rfl, hb1⟩; (have HB2 := Lib.hid (HB1.out.trans (hb1.mono HB1.out.size))); (have HX2 := Lib.hid (HX1.out.below hb1)); clear hb1 HQ2)
    have cx := (HB2.out.cell (p := ⟨b, off + m, none⟩) HBl.out).trans HCx.out
    go_wp2_with (first | (go_at_call 63; refine (rof_any x V1 V2 _ HOk.out.1).mono ?_; rintro e w3 ⟨rfl, hb1⟩; (have HB3 := Lib.hid (HB2.out.trans (hb1.mono HB2.out.size))); (have HX3 := Lib.hid (HX2.out.below hb1)); clear hb1 cx) | (refine store_obj w3.heap.size (rfA f8 0 0) (rsA (x, V1, V2)) rfl rfl rfl rfl rfl (RO.mk w3 f8 0 0) (by rw [rsA, rfA_size (blN_len _)]; exact info_R) (by rw [rsA, rfA_size (blN_len _), rfA_size rfl]) (rfA_one _ _ _) ?_; intro w5 h5 hg5; (have H5 := Lib.hid (show RO w3.heap.size (blN x) V1 V2 w5 from h5)); (have HX5 := Lib.hid ((HX3.out.below ((Below.refl _ _).alloc (Nat.le_refl _) _)).grown hg5 (by have := HX3.out.lt; omega))); (have HB5 := Lib.hid (below_grown (HB3.out.alloc HB3.out.size _) (HB3.out.alloc HB3.out.size _).size hg5 HB3.out.size)); clear h5 hg5 HX3 HB3) | (refine load_obj w3.heap.size (rfA (blN x) V1 V2) rfl rfl rfl (H6.out.load (blN_len _)) ?_) | (refine load_obj w3.heap.size (rfA (blN x) V1 V2) rfl rfl rfl (H5.out.load (blN_len _)) ?_) | (go_at_call 35; refine (HQ.out _).mono ?_; rintro e w6 ⟨rfl, hb1⟩; (have H6 := Lib.hid (H5.out.below hb1)); (have HX6 := Lib.hid (HX5.out.below hb1)); (have HB6 := Lib.hid (HB5.out.trans (hb1.mono HB5.out.size))); clear hb1 HQ) | (refine store_obj w.heap.size (rfA f8 0 0) (rfA f8 0 0) rfl rfl rfl rfl rfl HX6.out (by rw [rfA_size rfl]; exact info_R) rfl (rfA_one _ _ _) ?_; intro w9 h9 hg9; (have H9 := Lib.hid (show RO w.heap.size f8 0 0 w9 from h9)); (have HB9 := Lib.hid (below_grown HB6.out HB6.out.size hg9 (Nat.le_refl _))); clear h9 hg9))
    have hl := H9.out.load rfl
    exact bodyPost_ret (v := .tuple #[.agg (rsA (0, 0, 0)), .int .i64 0, .int .i64 3]) (by simp [results, Try.results33, asAddr]; exact (congrArg (fun r => Result.andThen r _) hl).trans rfl) rfl ⟨by rw [HE.out]; rfl, HB9.out⟩
end Go.Proofs.Ythgdbdhonhkkpaa.St
