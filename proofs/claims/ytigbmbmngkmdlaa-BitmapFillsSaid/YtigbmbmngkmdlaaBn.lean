/-
  bitmap: the law BitmapBytes, walked.
-/
import Derived.Test.YtigbmbmngkmdlaaBm
namespace Go.Proofs.Ytigbmbmngkmdlaa.Bm
open Go.RowKit Go.Proofs.Ytigbmbmngkmdlaa.L Go.Proofs.Ytigbmbmngkmdlaa.Bt Go.Proofs.YtigbmbmngkmdlaaW.PrintWords

theorem ofR_2 (n : Int) (x : Nat) : (ofR n x).2 = rgt n x := by
  unfold ofR rgt
  by_cases h1 : n < 0
  · simp [h1]; omega
  · by_cases h2 : 64 < n
    · simp [h1, h2]; omega
    · simp [h1, h2, show 0 ≤ n by omega, show n ≤ 64 by omega]
theorem ofR_yes {n : Int} {x : Nat} (h : rgt n x = true) : (ofR n x).1 = bitsL x n.toNat ∧ x < 2 ^ n.toNat ∧ 0 ≤ n ∧ n ≤ 64 := by
  simp [rgt] at h
  refine ⟨?_, h.2, h.1.1, h.1.2⟩
  unfold ofR
  simp [show ¬ n < 0 by omega, show ¬ 64 < n by omega]
theorem ofR_put {n : Int} {x : Nat} (h : rgt n x = true) : (ofR n x).1.length ≤ 64 ∧ putM (ofR n x).1.length (num (ofR n x).1) = wrM n x ∧ wrE n x = 0 := by
  obtain ⟨h1, h2, h3, h4⟩ := ofR_yes h
  rw [h1, bitsL_len, num_bits, Nat.mod_eq_of_lt h2]
  refine ⟨by omega, by simp [wrM, h], by simp [wrE, h]⟩
theorem wr_no {n : Int} {x : Nat} (h : rgt n x = false) : wrM n x = [] ∧ wrE n x = 3 := by simp [wrM, wrE, h]

set_option maxHeartbeats 3200000 in
set_option maxRecDepth 100000 in
theorem bytes_walk (n : Int) (x : Nat) (l : List Int) (A : Option Addr) (c : Nat) (w : World) (hx : x < 2 ^ 64) (hC : (Kd.int .u8).C w A l.length l) (hc : l.length ≤ c) (hb : okB l) :
    Calls Try.prog 3 #[.agg #[.int .i64 n, .int .u64 x], .slice A l.length c] w fun e w' => e = .returned (.bool true) ∧ Below w.heap.size w w' := by
  have hu := Try.underlying24
  obtain ⟨wb, hwb, ha, hbel⟩ := mk w n x
  have HB := Lib.hid hbel
  have HA := Lib.hid ha
  have HCb := Lib.hid (Kd.C_below hC hbel)
  have HK := Lib.hid hc
  have HOK := Lib.hid hb
  have HX := Lib.hid hx
  have k0 := ha.c0
  have k1 := ha.c1
  by_cases h100 : (100 : Int) < (l.length : Int)
  · have t1 : decide ((100 : Int) < (l.length : Int)) = true := by simpa using h100
    clear ha hbel hC hc hb hx h100
    go_enter Try.func3, Try.ntmps3
    go_wp2_with fail
    rw [← hwb]
    refine (alive_any _).mono ?_
    rintro e w3 ⟨rfl, hb3⟩
    have HB3 := Lib.hid (stay1 HB.out hb3)
    clear hb3
    go_wp2
    go_ret
    exact ⟨rfl, HB3.out⟩
  · have t1 : decide ((100 : Int) < (l.length : Int)) = false := by simpa using h100
    have HRB := Lib.hid (read_both hb)
    have HO2 := Lib.hid (ofR_2 n x)
    have HOY := Lib.hid (@ofR_put n x)
    have HWN := Lib.hid (@wr_no n x)
    have HOf := Lib.hid (fun w => of_any n x w hx)
    have HWr := Lib.hid (fun w => write_any n x w hx)
    clear ha hbel hC hc hb hx h100
    rw [hwb] at k0 k1
    go_enter Try.func3, Try.ntmps3
    go_wp2_with fail
    rw [← hwb]
    rw [← hwb] at k0 k1
    clear hwb
    go_wp2_with fail
    refine (HOf.out _).mono ?_
    rintro e w1 ⟨v11, rfl, ho11, hb1⟩
    replace HB := Lib.hid (stay1 HB.out hb1)
    replace HA := Lib.hid (HA.out.below hb1)
    replace HCb := Lib.hid (Kd.C_below HCb.out hb1)
    obtain ⟨A1, c1, rfl, hk1, hC1⟩ := Kd.R_reads ho11
    have HC1 := Lib.hid (hC1)
    have KHC1 := Lib.hid (hk1)
    clear ho11 hC1 hk1
    clear hb1
    have q0 := HA.out.c0
    have q1 := HA.out.c1
    clear k0 k1
    go_wp2_with fail
    refine (HWr.out _).mono ?_
    rintro e w2 ⟨v22, rfl, ho22, hb2⟩
    clear HA
    replace HB := Lib.hid (stay1 HB.out hb2)
    replace HCb := Lib.hid (Kd.C_below HCb.out hb2)
    replace HC1 := Lib.hid (Kd.C_below HC1.out hb2)
    obtain ⟨A2, c2, rfl, hk2, hC2⟩ := Kd.R_reads ho22
    have HC2 := Lib.hid (hC2)
    have KHC2 := Lib.hid (hk2)
    clear ho22 hC2 hk2
    clear hb2
    clear q0 q1
    have hRd := fun w' h => read_any l A c w' h HK.out HOK.out
    have hRR := fun w' h => rread_any l A c w' h HOK.out
    have hsame := fun (x' : Nat) (A' : Option Addr) (c' : Nat) (w' : World) => same_yes x' (rreadR l).1 A' c' w'
    have hcase := HRB.out
    clear HRB
    generalize rreadR l = RR at hRR hsame hcase
    obtain ⟨RL, rb⟩ := RR
    have HSAME := Lib.hid hsame
    clear hsame
    rcases hcase with ⟨hrb, x', hRD, hx', hhas⟩ | ⟨hrb, hRD⟩
    · simp only at hrb hRD
      subst hrb
      rw [hRD] at hRd
      simp only [mapV] at hRd
      have HRd := Lib.hid hRd
      have HRR := Lib.hid hRR
      clear hRd hRR hRD
      go_wp2_with fail
      refine (HRd.out _ HCb.out).mono ?_
      rintro e w3 ⟨rfl, hb3⟩
      replace HB := Lib.hid (stay1 HB.out hb3)
      replace HCb := Lib.hid (Kd.C_below HCb.out hb3)
      replace HC1 := Lib.hid (Kd.C_below HC1.out hb3)
      replace HC2 := Lib.hid (Kd.C_below HC2.out hb3)
      clear hb3
      obtain ⟨y4, hy4, ha4, hby4⟩ := mk w3 RL.length x'
      replace HB := Lib.hid (stay1 HB.out hby4)
      replace HCb := Lib.hid (Kd.C_below HCb.out hby4)
      replace HC1 := Lib.hid (Kd.C_below HC1.out hby4)
      replace HC2 := Lib.hid (Kd.C_below HC2.out hby4)
      have HA3 := Lib.hid (ha4)
      clear ha4 hby4
      have HSM := Lib.hid (fun A' c' w' h => HSAME.out x' A' c' w' h hx' hhas)
      clear hx' hhas HSAME
      go_wp2_with fail
      rw [← hy4]
      clear hy4
      refine (HRR.out _ HCb.out).mono ?_
      rintro e w5 ⟨v54, rfl, ho54, hb5⟩
      replace HB := Lib.hid (stay1 HB.out hb5)
      replace HCb := Lib.hid (Kd.C_below HCb.out hb5)
      replace HC1 := Lib.hid (Kd.C_below HC1.out hb5)
      replace HC2 := Lib.hid (Kd.C_below HC2.out hb5)
      replace HA3 := Lib.hid (HA3.out.below hb5)
      obtain ⟨A4, c4, rfl, hk4, hC4⟩ := Kd.R_reads ho54
      have HC4 := Lib.hid (hC4)
      have KHC4 := Lib.hid (hk4)
      clear ho54 hC4 hk4
      clear hb5
      have r0 := HA3.out.c0
      have r1 := HA3.out.c1
      go_wp2_with fail
      refine (HSM.out _ _ _ HC4.out).mono ?_
      rintro e w6 ⟨rfl, hb6⟩
      clear HA3
      replace HB := Lib.hid (stay1 HB.out hb6)
      replace HCb := Lib.hid (Kd.C_below HCb.out hb6)
      replace HC1 := Lib.hid (Kd.C_below HC1.out hb6)
      replace HC2 := Lib.hid (Kd.C_below HC2.out hb6)
      replace HC4 := Lib.hid (Kd.C_below HC4.out hb6)
      clear hb6
      clear r0 r1
      cases hg : rgt n x
      · rw [HO2.out, hg, (HWN.out hg).1, (HWN.out hg).2]
        clear HWN HOY hg
        go_wp2_with fail
        refine (alive_any _).mono ?_
        rintro e w7 ⟨rfl, hb7⟩
        replace HB := Lib.hid (stay1 HB.out hb7)
        replace HCb := Lib.hid (Kd.C_below HCb.out hb7)
        replace HC1 := Lib.hid (Kd.C_below HC1.out hb7)
        replace HC2 := Lib.hid (Kd.C_below HC2.out hb7)
        replace HC4 := Lib.hid (Kd.C_below HC4.out hb7)
        clear hb7
        go_wp2
        go_ret
        exact ⟨rfl, HB.out⟩
      · obtain ⟨hz1, hz2, hz3⟩ := HOY.out hg
        rw [HO2.out, hg, hz3]
        have HRw := Lib.hid (fun w' h => rwrite_any (ofR n x).1 A1 c1 w' h hz1)
        rw [hz2] at HRw
        clear hz1 hz2 hz3 HWN HOY hg HO2 HOf HWr HX
        generalize wrM n x = ps at HRw HC2
        generalize (ofR n x).1 = OL at HRw HC1
        go_wp2_with fail
        refine Q.wp_region_segs none [([], some 0), ([1, 2, 3, 4, 5, 6, 7, 8], some 9), ([10, 11, 12, 13], none)] (by kernel_rfl) (by kernel_rfl) (by kernel_rfl) (by kernel_rfl) ?_
        dsimp only [Q.wpSegs, Q.picks, Q.pick]
        refine wpQuiet_nil ?_
        replace HB := Lib.hid HB.out.drew
        replace HC1 := Lib.hid (Kd.C_drew HC1.out)
        replace HC2 := Lib.hid (Kd.C_drew HC2.out)
        go_wp2_with (go_at_call 15; refine (alive_any _).mono ?_; rintro e wq ⟨rfl, hbq⟩; (have HBq := Lib.hid hbq); clear hbq)
        refine Q.ev_done HBq.out (Nat.le_refl _) ?_
        replace HB := Lib.hid (stay1 HB.out HBq.out)
        replace HC1 := Lib.hid (Kd.C_below HC1.out HBq.out)
        replace HC2 := Lib.hid (Kd.C_below HC2.out HBq.out)
        have q7 : ∀ m : Q.GW wq wq.heap.size none, (convert 25 9 (.slice A2 ps.length c2)).run Try.prog m.w = .ok (.string (strOfNums ps)) m.w := fun m => Kd.C_string Try.underlying25 Try.underlying5 Try.underlying9 (Kd.C_below HC2.out m.below)
        repeat (go_big_quiet_step (fail))
        refine wpQuiet_nil ?_
        go_wp2_with (go_at_call 21; refine (HRw.out _ HC1.out).mono ?_; rintro e wr ⟨vr, rfl, hor, hbr⟩; obtain ⟨Ar, cr, rfl, _, hCr⟩ := Kd.R_reads hor; (have HCr := Lib.hid hCr); (have HBr := Lib.hid hbr); clear hbr hor hCr)
        refine Q.ev_done HBr.out (Nat.le_refl _) ?_
        clear q7
        have q8 : ∀ m : Q.GW wr wr.heap.size none, (convert 25 9 (.slice Ar ps.length cr)).run Try.prog m.w = .ok (.string (strOfNums ps)) m.w := fun m => Kd.C_string Try.underlying25 Try.underlying5 Try.underlying9 (Kd.C_below HCr.out m.below)
        repeat (go_big_quiet_step (fail))
        refine wpQuiet_nil ?_
        refine NoPanic.normal ?_
        go_wp2
        go_ret
        exact ⟨rfl, stay1 HB.out HBr.out⟩
    · simp only at hrb hRD
      subst hrb
      rw [hRD] at hRd
      simp only [mapV] at hRd
      have HRd := Lib.hid hRd
      have HRR := Lib.hid hRR
      clear hRd hRR hRD
      clear HSAME
      go_wp2_with fail
      refine (HRd.out _ HCb.out).mono ?_
      rintro e w23 ⟨rfl, hb23⟩
      replace HB := Lib.hid (stay1 HB.out hb23)
      replace HCb := Lib.hid (Kd.C_below HCb.out hb23)
      replace HC1 := Lib.hid (Kd.C_below HC1.out hb23)
      replace HC2 := Lib.hid (Kd.C_below HC2.out hb23)
      clear hb23
      obtain ⟨y24, hy24, ha24, hby24⟩ := mk w23 0 0
      replace HB := Lib.hid (stay1 HB.out hby24)
      replace HCb := Lib.hid (Kd.C_below HCb.out hby24)
      replace HC1 := Lib.hid (Kd.C_below HC1.out hby24)
      replace HC2 := Lib.hid (Kd.C_below HC2.out hby24)
      have HA3 := Lib.hid (ha24)
      clear ha24 hby24
      go_wp2_with fail
      rw [← hy24]
      clear hy24
      refine (HRR.out _ HCb.out).mono ?_
      rintro e w25 ⟨v254, rfl, ho254, hb25⟩
      replace HB := Lib.hid (stay1 HB.out hb25)
      replace HCb := Lib.hid (Kd.C_below HCb.out hb25)
      replace HC1 := Lib.hid (Kd.C_below HC1.out hb25)
      replace HC2 := Lib.hid (Kd.C_below HC2.out hb25)
      replace HA3 := Lib.hid (HA3.out.below hb25)
      obtain ⟨A4, c4, rfl, hk4, hC4⟩ := Kd.R_reads ho254
      have HC4 := Lib.hid (hC4)
      have KHC4 := Lib.hid (hk4)
      clear ho254 hC4 hk4
      clear hb25
      have r0 := HA3.out.c0
      have r1 := HA3.out.c1
      cases hg : rgt n x
      · rw [HO2.out, hg, (HWN.out hg).1, (HWN.out hg).2]
        clear HWN HOY hg
        go_wp2_with fail
        refine (alive_any _).mono ?_
        rintro e w26 ⟨rfl, hb26⟩
        replace HB := Lib.hid (stay1 HB.out hb26)
        replace HCb := Lib.hid (Kd.C_below HCb.out hb26)
        replace HC1 := Lib.hid (Kd.C_below HC1.out hb26)
        replace HC2 := Lib.hid (Kd.C_below HC2.out hb26)
        replace HA3 := Lib.hid (HA3.out.below hb26)
        replace HC4 := Lib.hid (Kd.C_below HC4.out hb26)
        clear hb26
        go_wp2
        go_ret
        exact ⟨rfl, HB.out⟩
      · obtain ⟨hz1, hz2, hz3⟩ := HOY.out hg
        rw [HO2.out, hg, hz3]
        have HRw := Lib.hid (fun w' h => rwrite_any (ofR n x).1 A1 c1 w' h hz1)
        rw [hz2] at HRw
        clear hz1 hz2 hz3 HWN HOY hg HO2 HOf HWr HX
        generalize wrM n x = ps at HRw HC2
        generalize (ofR n x).1 = OL at HRw HC1
        go_wp2_with fail
        refine Q.wp_region_segs none [([], some 0), ([1, 2, 3, 4, 5, 6, 7, 8], some 9), ([10, 11, 12, 13], none)] (by kernel_rfl) (by kernel_rfl) (by kernel_rfl) (by kernel_rfl) ?_
        dsimp only [Q.wpSegs, Q.picks, Q.pick]
        refine wpQuiet_nil ?_
        replace HB := Lib.hid HB.out.drew
        replace HC1 := Lib.hid (Kd.C_drew HC1.out)
        replace HC2 := Lib.hid (Kd.C_drew HC2.out)
        go_wp2_with (go_at_call 15; refine (alive_any _).mono ?_; rintro e wq ⟨rfl, hbq⟩; (have HBq := Lib.hid hbq); clear hbq)
        refine Q.ev_done HBq.out (Nat.le_refl _) ?_
        replace HB := Lib.hid (stay1 HB.out HBq.out)
        replace HC1 := Lib.hid (Kd.C_below HC1.out HBq.out)
        replace HC2 := Lib.hid (Kd.C_below HC2.out HBq.out)
        have q7 : ∀ m : Q.GW wq wq.heap.size none, (convert 25 9 (.slice A2 ps.length c2)).run Try.prog m.w = .ok (.string (strOfNums ps)) m.w := fun m => Kd.C_string Try.underlying25 Try.underlying5 Try.underlying9 (Kd.C_below HC2.out m.below)
        repeat (go_big_quiet_step (fail))
        refine wpQuiet_nil ?_
        go_wp2_with (go_at_call 21; refine (HRw.out _ HC1.out).mono ?_; rintro e wr ⟨vr, rfl, hor, hbr⟩; obtain ⟨Ar, cr, rfl, _, hCr⟩ := Kd.R_reads hor; (have HCr := Lib.hid hCr); (have HBr := Lib.hid hbr); clear hbr hor hCr)
        refine Q.ev_done HBr.out (Nat.le_refl _) ?_
        clear q7
        have q8 : ∀ m : Q.GW wr wr.heap.size none, (convert 25 9 (.slice Ar ps.length cr)).run Try.prog m.w = .ok (.string (strOfNums ps)) m.w := fun m => Kd.C_string Try.underlying25 Try.underlying5 Try.underlying9 (Kd.C_below HCr.out m.below)
        repeat (go_big_quiet_step (fail))
        refine wpQuiet_nil ?_
        refine NoPanic.normal ?_
        go_wp2
        go_ret
        exact ⟨rfl, stay1 HB.out HBr.out⟩
end Go.Proofs.Ytigbmbmngkmdlaa.Bm
