/-
  ctr: CtrBack.
-/
import Derived.Test.YtblnclooobggnaaOe
namespace Go.Proofs.Ytblnclooobggnaa.A
open Go.RowKit Go.Proofs.Ytblnclooobggnaa.L Go.Proofs.Ytblnclooobggnaa.N Go.Proofs.YtblnclooobggnaaW.PrintWords

set_option maxRecDepth 100000 in
set_option maxHeartbeats 6400000 in
theorem ctrback_nat (key b : List Nat) (n : Nat) (at' : Int) (A : Option Addr) (cb : Nat) (w : World) (hk : key.length = 16) (hk8 : ∀ z ∈ key, z < 256) (hn : n < 18446744073709551616) (hC : (Kd.int .u8).C w A b.length (nat b)) (hb8 : ∀ z ∈ b, z < 256) :
    Calls Try.prog 7 #[.agg (arr .u8 key), .int .u64 (n : Int), .slice A b.length cb, .int .i64 at'] w fun e w' => e = .returned (.bool true) ∧ Below w.heap.size w w' := by
  by_cases hg0 : 2000 < b.length
  · have tg0 : decide ((2000 : Int) < (b.length : Int)) = true := decide_eq_true (by omega)
    clear hk hk8 hn hC hb8 hg0
    go_enter Try.func7, Try.ntmps7
    go_wp2_with fail
    refine (alive06_any _).mono ?_
    rintro e w1 ⟨rfl, hb⟩
    go_wp2_with fail
    go_ret
    exact ⟨rfl, ((Below.refl _ _).alloc (Nat.le_refl _) _).trans (hb.mono (by simp))⟩
  have tg0 : decide ((2000 : Int) < (b.length : Int)) = false := decide_eq_false (by omega)
  by_cases hg1 : at' < 0
  · have tg1 : decide (at' < 0) = true := decide_eq_true (by omega)
    clear hk hk8 hn hC hb8 hg0 hg1
    go_enter Try.func7, Try.ntmps7
    go_wp2_with fail
    refine (alive06_any _).mono ?_
    rintro e w1 ⟨rfl, hb⟩
    go_wp2_with fail
    go_ret
    exact ⟨rfl, ((Below.refl _ _).alloc (Nat.le_refl _) _).trans (hb.mono (by simp))⟩
  have tg1 : decide (at' < 0) = false := decide_eq_false (by omega)
  by_cases hg2 : (b.length : Int) < at'
  · have tg2 : decide ((b.length : Int) < at') = true := decide_eq_true (by omega)
    clear hk hk8 hn hC hb8 hg0 hg1 hg2
    go_enter Try.func7, Try.ntmps7
    go_wp2_with fail
    refine (alive06_any _).mono ?_
    rintro e w1 ⟨rfl, hb⟩
    go_wp2_with fail
    go_ret
    exact ⟨rfl, ((Below.refl _ _).alloc (Nat.le_refl _) _).trans (hb.mono (by simp))⟩
  have tg2 : decide ((b.length : Int) < at') = false := decide_eq_false (by omega)
  obtain ⟨i, rfl⟩ : ∃ k : Nat, at' = (k : Int) := ⟨at'.toNat, by omega⟩
  obtain ⟨m, hm⟩ : ∃ m, b.length - i = m := ⟨_, rfl⟩
  have HK := Lib.hid hk
  have HIm := Lib.hid (show i ≤ b.length ∧ b.length = i + m ∧ b.length ≤ 2000 from ⟨by omega, by omega, by omega⟩)
  have e1 : (b.length : Int) - (i : Int) = (m : Int) := by omega
  have c1 := cnt_small (a := 0) (len := b.length) (by omega) (by omega)
  have c2 := cnt_small (a := 0) (len := i) (by omega) (by omega)
  have hXl := hideN_len key n b
  have hX8 := hideN_lt hk8 n hb8
  have HH1 := Lib.hid (fun p c W (h : ST p c key 0 W) hC hA => hide_any p c 0 n key b A cb W h (by decide) hn hk hk8 hC hA (by omega) hb8)
  have HH2 := Lib.hid (fun p c A2 c2 W (h : ST p c key (0 + cntN 0 b.length) W) hC hA => hide_any p c (0 + cntN 0 b.length) n key (hideN key n b) A2 c2 W h (by omega) hn hk hk8 hC hA (by rw [hXl]; omega) hX8)
  have HA3 := Lib.hid (fun p c W (h : ST p c key (0 + cntN 0 b.length + cntN 0 (hideN key n b).length) W) => at_any p c (0 + cntN 0 b.length + cntN 0 (hideN key n b).length) n 0 i key W h (by rw [hXl]; omega) hn (by omega) (by omega) hk hk8)
  have HA4 := Lib.hid (fun p c W (h : ST p c key (0 + cntN 0 b.length + cntN 0 (hideN key n b).length + cntN 0 i) W) => at_any p c (0 + cntN 0 b.length + cntN 0 (hideN key n b).length + cntN 0 i) n i m key W h (by rw [hXl]; omega) hn (by omega) (by omega) hk hk8)
  have hbk := hideN_back key n b
  have HGx := Lib.hid (fun j (hj : j < b.length) => hideN_get key n b hj)
  have HG3 := Lib.hid (fun j (hj : j < i) => atN_get key n 0 (len := i) hj)
  have HG4 := Lib.hid (fun j (hj : j < m) => atN_get key n i (len := m) hj)
  have HPl := Lib.hid (atN_len key n 0 i)
  have HQl := Lib.hid (atN_len key n i m)
  have HB8 := Lib.hid hb8
  have HS8 := Lib.hid (fun j => sb_lt hk8 n j)
  simp only [hbk] at HH2
  generalize atN key n 0 i = P at *
  generalize atN key n i m = R at *
  obtain ⟨X, hX⟩ : ∃ X, hideN key n b = X := ⟨_, rfl⟩
  simp only [hX] at HH1 HH2 HA3 HA4 HGx hXl hX8
  have HXl := Lib.hid hXl
  have HX8 := Lib.hid hX8
  have HC := Lib.hid hC
  have HAlt := Lib.hid (show ∀ ad, A = some ad → 0 < b.length → ad.block < w.heap.size from fun ad e h0 => by
    obtain ⟨b9, o9, e9, h9, _⟩ := B_at hC h0
    rw [e9] at e
    injection e with e
    subst e
    exact h9)
  have z1 : (i : Int) ≤ (b.length : Int) := by omega
  have z2 : (0 : Int) ≤ (i : Int) := by omega
  have z3 : (m : Int) ≤ 2000 := by omega
  have z4 : (0 : Int) ≤ (m : Int) := by omega
  have z5 : (b.length : Int) ≤ 2000 := by omega
  clear hk hk8 hn hC hb8 hbk hX hXl hX8 hm c1 c2 hg0 hg1 hg2
  have HNone := Lib.hid (fun (b : List Nat) (h : ¬ 0 < b.length) => List.eq_nil_of_length_eq_zero (show b.length = 0 by omega))
  go_enter Try.func7, Try.ntmps7
  go_upto_region 3 with (fail)
  refine wp_at fun W hW => ?_
  have HKW := Lib.hid (show AB .u8 27 w.heap.size key W from by rw [hW]; exact AB.mk w .u8 _ key)
  have HBW := Lib.hid (show Below w.heap.size w W from by rw [hW]; exact (Below.refl _ _).alloc (Nat.le_refl _) _)
  clear hW
  go_upto_region 4 with (first
    | (refine load_ab .u8 w.heap.size key rfl rfl rfl HKW.out Try.underlying27 (by rw [HK.out]; exact info_key) ?_)
    | (go_at_call 24; refine (newctr_any key W HK.out).mono ?_; rintro e w3 ⟨p, c, rfl, hc0, hp0, hst, hb1⟩; (have HC0 := Lib.hid (show w.heap.size ≤ c from Nat.le_trans HBW.out.size hc0)); (have HST := Lib.hid hst); (have HB1 := Lib.hid (HBW.out.trans (hb1.mono HBW.out.size))); clear hc0 hp0 hst hb1))
  have HCb3 := Lib.hid (Kd.C_below HC.out HB1.out)
  have HAp := Lib.hid (show 0 < b.length → ∀ ad, A = some ad → ad.block ≠ c from fun h0 ad e => by have := HAlt.out ad e h0; have := HC0.out; omega)
  clear HKW HBW HAlt HC

  have HQ := Lib.hid (HH1.out p c w3 HST.out HCb3.out HAp.out)
  clear HH1
  go_upto_region 5 with (go_at_call 25; refine HQ.out.mono ?_; rintro e w5 ⟨v1, rfl, hrv, hcu, hg⟩; (have HRV := Lib.hid hrv); (have HST5 := Lib.hid (HST.out.turned hg hcu)); (have HCb5 := Lib.hid (C_grown HCb3.out HAp.out hg)); (have HB5 := Lib.hid (below_grown HB1.out HB1.out.size hg HC0.out)); clear hrv hcu hg)
  obtain ⟨A1, c1, hv1, hcc1, hC1, hA1⟩ := HRV.out.open
  rw [HXl.out] at hv1
  subst hv1
  have HCx5 := Lib.hid hC1
  have HApx := Lib.hid (fun ad (e : A1 = some ad) => show ad.block ≠ c from by have := hA1 ad e; have := HST.out.cu.lt; omega)
  have HQ2 := Lib.hid (show Calls _ _ #[_, _, .slice A1 b.length c1] _ _ from by have h := HH2.out p c A1 c1 w5 HST5.out HCx5.out (fun _ => HApx.out); rw [HXl.out] at h; exact h)
  clear HH2 HRV hcc1 hC1 hA1 HQ HCb3 HST HB1
  go_upto_region 6 with (go_at_call 25; refine HQ2.out.mono ?_; rintro e w7 ⟨v2, rfl, hrv, hcu, hg⟩; (have HRV := Lib.hid hrv); (have HST7 := Lib.hid (HST5.out.turned hg hcu)); (have HCb7 := Lib.hid (C_grown HCb5.out HAp.out hg)); (have HCx7 := Lib.hid (C_grown HCx5.out (fun _ => HApx.out) hg)); (have HB7 := Lib.hid (below_grown HB5.out HB5.out.size hg HC0.out)); clear hrv hcu hg)
  obtain ⟨A2, c2, hv2, hcc2, hC2, hA2⟩ := HRV.out.open
  subst hv2
  have HCy7 := Lib.hid hC2
  have HApy := Lib.hid (fun ad (e : A2 = some ad) => show ad.block ≠ c from by have := hA2 ad e; have := HST5.out.cu.lt; omega)
  have hq := HA3.out p c w7 (by rw [HXl.out]; exact HST7.out)
  rw [show ((0 : Nat) : Int) = 0 from rfl] at hq
  have HQ3 := Lib.hid hq
  clear hq HA3 HRV hcc2 hC2 hA2 HQ2 HCb5 HCx5 HST5 HB5
  go_upto_region 7 with (go_at_call 26; refine HQ3.out.mono ?_; rintro e w9 ⟨v3, rfl, hrv, hcu, hg⟩; (have HRV := Lib.hid hrv); (have HST9 := Lib.hid (HST7.out.turned hg hcu)); (have HCb9 := Lib.hid (C_grown HCb7.out HAp.out hg)); (have HCx9 := Lib.hid (C_grown HCx7.out (fun _ => HApx.out) hg)); (have HCy9 := Lib.hid (C_grown HCy7.out (fun _ => HApy.out) hg)); (have HB9 := Lib.hid (below_grown HB7.out HB7.out.size hg HC0.out)); clear hrv hcu hg)
  obtain ⟨A3, c3, hv3, hcc3, hC3, hA3⟩ := HRV.out.open
  rw [HPl.out] at hv3
  subst hv3
  have HCp9 := Lib.hid hC3
  have HApp := Lib.hid (fun ad (e : A3 = some ad) => show ad.block ≠ c from by have := hA3 ad e; have := HST7.out.cu.lt; omega)
  have HQ4 := Lib.hid (HA4.out p c w9 HST9.out)
  clear HA4 HRV hcc3 hC3 hA3 HQ3 HCb7 HCx7 HCy7 HST7 HB7
  go_upto_region 8 with (go_at_call 26; refine HQ4.out.mono ?_; rintro e w11 ⟨v4, rfl, hrv, hcu, hg⟩; (have HRV := Lib.hid hrv); (have HCb := Lib.hid (C_grown HCb9.out HAp.out hg)); (have HCx := Lib.hid (C_grown HCx9.out (fun _ => HApx.out) hg)); (have HCy := Lib.hid (C_grown HCy9.out (fun _ => HApy.out) hg)); (have HCp := Lib.hid (C_grown HCp9.out (fun _ => HApp.out) hg)); (have HBz := Lib.hid (below_grown HB9.out HB9.out.size hg HC0.out)); clear hrv hcu hg)
  obtain ⟨A4, c4, hv4, hcc4, hC4, hA4⟩ := HRV.out.open
  rw [HQl.out] at hv4
  subst hv4
  have HCq := Lib.hid hC4
  clear HRV hcc4 hC4 hA4 HQ4 HCb9 HCx9 HCy9 HCp9 HST9 HB9
  have q1 := strC (c := c2) HCy.out
  have q2 := strC (c := cb) HCb.out
  go_upto_region 10 with (fail)
  refine exit_at fun wb hwb => ?_
  have HBz2 := Lib.hid (show Below w11.heap.size w11 wb from by rw [hwb]; exact Below.refl _ _)
  clear hwb q1 q2
  go_wp2_with fail
  go_loopg [18] (b.length + 2) (fun g v18 w' => ∃ j : Nat, v18 = .int .i64 (j : Int) ∧ Hid (j ≤ b.length ∧ b.length < g + j) ∧ Hid (Below w11.heap.size w11 w'))
  case atStart => exact ⟨0, rfl, Lib.hid ⟨by omega, by omega⟩, HBz2⟩
  case round =>
    obtain ⟨j, rfl, HJ, HBj⟩ := hrel
    cases gk with
    | zero => have := HJ.out; omega
    | succ g1 =>
      by_cases hj : j < b.length
      · have HJ' := Lib.hid (show j < b.length ∧ b.length < (g1 + 1) + j from ⟨hj, HJ.out.2⟩)
        have w0 : (j : Int) < (b.length : Int) := by omega
        have w1 : (0 : Int) ≤ (j : Int) := by omega
        obtain ⟨bb, ob, rfl, hbb, hcb⟩ := B_at (Kd.C_below HCb.out HBj.out) (by omega)
        obtain ⟨bx, ox, rfl, hbx, hcx⟩ := B_at (Kd.C_below HCx.out HBj.out) (by rw [HXl.out]; omega)
        have p1 := hcb j hj
        have p2 := hcx j (by rw [HXl.out]; exact hj)
        rw [HGx.out j hj] at p2
        obtain ⟨va, hva⟩ : ∃ y, b.getD j 0 = y := ⟨_, rfl⟩
        obtain ⟨vb, hvb⟩ : ∃ y, sb key n j = y := ⟨_, rfl⟩
        rw [hva, hvb] at p2
        rw [hva] at p1
        have x1 := xor_u8 va vb (by rw [← hva]; exact getD_lt0 (by decide) _ HB8.out) (by rw [← hvb]; exact HS8.out j)
        have q1 := gw hbb p1
        have q2 := gw hbx p2
        by_cases hlt : j < i
        · have w2 : (j : Int) < (i : Int) := by omega
          obtain ⟨bp, op, rfl, hbp, hcp⟩ := B_at (Kd.C_below HCp.out HBj.out) (by rw [HPl.out]; omega)
          have p3 := hcp j (by rw [HPl.out]; exact hlt)
          rw [HG3.out j hlt, Nat.zero_add, hvb] at p3
          clear hva hvb hcb hcx hcp hlt hj HJ hbb hbx hbp p1 p2
          generalize va ^^^ vb = vx at *
          go_wp2_with fail
          refine Q.wp_region_segs none [([0, 1, 2, 3, 4, 5, 6, 7, 8, 9, 10], none)] (by kernel_rfl) (by kernel_rfl) (by kernel_rfl) (by kernel_rfl) ?_
          dsimp only [Q.wpSegs, Q.picks, Q.pick]
          repeat (go_big_quiet_step (fail))
          refine wpQuiet_nil ?_
          refine NoPanic.normal ?_
          go_wp2_with fail
          go_roundg g1
          case measure => have := HJ'.out; omega
          case rel => exact ⟨j + 1, by go_num, Lib.hid (by have := HJ'.out; omega), Lib.hid HBj.out.drew⟩
        · have w2 : ¬ (j : Int) < (i : Int) := by omega
          have w3 : decide ((j : Int) < (i : Int)) = false := decide_eq_false w2
          obtain ⟨bq, oq, rfl, hbq, hcq⟩ := B_at (Kd.C_below HCq.out HBj.out) (by rw [HQl.out]; have := HIm.out; omega)
          obtain ⟨u, hu⟩ : ∃ u, j - i = u := ⟨_, rfl⟩
          have hum : u < m := by have := HIm.out; omega
          have w4 : (j : Int) - (i : Int) = (u : Int) := by omega
          have w5 : (u : Int) < (m : Int) := by omega
          have w6 : (0 : Int) ≤ (u : Int) := by omega
          have p3 := hcq u (by rw [HQl.out]; exact hum)
          rw [HG4.out u hum, show i + u = j from by omega, hvb] at p3
          clear hva hvb hcb hcx hcq hlt hj HJ hbb hbx hbq p1 p2 hum hu
          generalize va ^^^ vb = vx at *
          go_wp2_with fail
          refine Q.wp_region_segs none [([0, 1, 2, 3, 4, 5, 6, 7, 8, 9, 10], none)] (by kernel_rfl) (by kernel_rfl) (by kernel_rfl) (by kernel_rfl) ?_
          dsimp only [Q.wpSegs, Q.picks, Q.pick]
          repeat (go_big_quiet_step (fail))
          refine wpQuiet_nil ?_
          refine NoPanic.normal ?_
          go_wp2_with fail
          go_roundg g1
          case measure => have := HJ'.out; omega
          case rel => exact ⟨j + 1, by go_num, Lib.hid (by have := HJ'.out; omega), Lib.hid HBj.out.drew⟩
      · obtain rfl : j = b.length := by have := HJ.out; omega
        clear hj HJ
        have HAl := Lib.hid (alive06_any wr)
        go_wp2_with fail
        refine HAl.out.mono ?_
        rintro e w12 ⟨rfl, hb12⟩
        have HB12 := Lib.hid (HBz.out.trans ((HBj.out.trans (hb12.mono HBj.out.size)).mono HBz.out.size))
        clear hb12
        go_wp2_with fail
        go_ret
        exact ⟨rfl, HB12.out⟩
theorem ctrback_walk (key : List Nat) (n : Int) (b : List Int) (at' : Int) (A : Option Addr) (cb : Nat) (w : World) (hk : key.length = 16) (hk8 : ∀ z ∈ key, z < 256) (hn : 0 ≤ n ∧ n < 18446744073709551616) (hC : (Kd.int .u8).C w A b.length b) (hb8 : ∀ z ∈ b, 0 ≤ z ∧ z < 256) :
    Calls Try.prog 7 #[.agg (arr .u8 key), .int .u64 n, .slice A b.length cb, .int .i64 at'] w fun e w' => e = .returned (.bool true) ∧ Below w.heap.size w w' := by
  obtain ⟨m1, e1, k1, l1, _⟩ := C_nat (m := 256) hC hb8
  obtain ⟨a, rfl⟩ : ∃ k : Nat, n = (k : Int) := ⟨n.toNat, by omega⟩
  rw [← e1]
  exact ctrback_nat key m1 a at' A cb w hk hk8 (by omega) k1 l1
end Go.Proofs.Ytblnclooobggnaa.A
