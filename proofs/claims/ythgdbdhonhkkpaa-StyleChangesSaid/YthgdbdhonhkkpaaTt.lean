/-
  style: the law of what numbers make of a style.
-/
import Derived.Test.YthgdbdhonhkkpaaTs
namespace Go.Proofs.Ythgdbdhonhkkpaa.St
open Go.RowKit Go.Proofs.Ythgdbdhonhkkpaa.L Go.Proofs.Ythgdbdhonhkkpaa.V Go.Proofs.Ythgdbdhonhkkpaa.N Go.Proofs.YthgdbdhonhkkpaaW.PrintWords

set_option maxRecDepth 100000 in
set_option maxHeartbeats 6400000 in
theorem changes_walk (s : Sty) (l : List Int) (A : Option Addr) (c : Nat) (w : World) (hs : okS s) (hC : (Kd.int .i64).C w A l.length l) (hc : l.length ≤ c) :
    Calls Try.prog 10 #[.agg (stA s), .slice A l.length c] w fun e w' => e = .returned (.bool true) ∧ Below w.heap.size w w' := by
  have hX := OB.mk w s
  have hB : Below w.heap.size w (w.alloc (.cells (stA s) tS)) := (Below.refl _ _).alloc (Nat.le_refl _) _
  rw [show (Value.agg (stA s)) = .agg #[.int .u8 (s.1 : Int), .int .u32 (s.2.1 : Int), .int .u32 (s.2.2 : Int)] from rfl]
  by_cases hg : 100 < l.length
  · have t1 : decide ((100 : Int) < (l.length : Int)) = true := decide_eq_true (by omega)
    have t1n : decide (100 < l.length) = true := decide_eq_true hg
    have HB := Lib.hid hB
    clear hX hB hC hc hg hs
    go_enter Try.func10, Try.ntmps10
    go_wp2_with (go_at_call 30; refine (alive_any _).mono ?_; rintro e w1 ⟨rfl, hb1⟩; (have HB1 := Lib.hid (HB.out.trans (hb1.mono HB.out.size))); clear hb1)
    go_ret
    exact ⟨rfl, HB1.out⟩
  have t1 : decide ((100 : Int) < (l.length : Int)) = false := decide_eq_false (by omega)
  have t1n : decide (100 < l.length) = false := decide_eq_false hg
  have z1 : (l.length : Int) ≤ 100 := by omega
  have HLn := Lib.hid (show l.length ≤ 100 from Nat.le_of_not_lt hg)
  have HC := Lib.hid hC
  have HK := Lib.hid hc
  have HS := Lib.hid hs
  go_enter Try.func10, Try.ntmps10
  go_upto_region 3 with (fail)
  refine wp_at fun W0 hW0 => ?_
  have hW1 : W0 = w.alloc (.cells (stA s) tS) := hW0.trans rfl
  rw [← hW1] at hX hB
  clear hW0 hW1
  have HXd := Lib.hid hX.drew
  have HBd := Lib.hid hB.drew
  have HX0 := Lib.hid (show OB w.heap.size s W0 from hX)
  obtain ⟨K, hK⟩ : ∃ K, (parR s).length = K := ⟨_, rfl⟩
  have HKp := Lib.hid (show K ≤ 20 from by
    rw [← hK]
    unfold parR
    split
    · have := flagT_len s.1 9
      have := nums_len 38 s.2.1
      have := nums_len 48 s.2.2
      simp
      omega
    · simp)
  have HKe := Lib.hid hK
  clear hX hB hC hc hg hs hK
  refine Q.wp_region_segs none [([0, 2], some 1), ([], some 3), ([], some 4), ([5, 6], none)] (by kernel_rfl) (by kernel_rfl) (by kernel_rfl) (by kernel_rfl) ?_
  dsimp only [Q.wpSegs, Q.picks, Q.pick]
  refine quiet_loadG tS (.tmp 2) (.pointer (some ⟨w.heap.size, 0, none⟩)) (.agg #[.int .u8 (s.1 : Int), .int .u32 (s.2.1 : Int), .int .u32 (s.2.2 : Int)]) rfl rfl rfl (HXd.out.loadQ (by exact HX0.out.lt)) ?_
  go_simp
  refine quiet_loadG tS (.tmp 2) (.pointer (some ⟨w.heap.size, 0, none⟩)) (.agg #[.int .u8 (s.1 : Int), .int .u32 (s.2.1 : Int), .int .u32 (s.2.2 : Int)]) rfl rfl rfl (HXd.out.loadQ (by exact HX0.out.lt)) ?_
  go_simp
  refine wpQuiet_nil ?_
  have hb0 := stay0 W0
  go_wp2_with (go_at_call 38; refine (params_any s _ HS.out.1).mono ?_; rintro e W1 ⟨v, rfl, hv, hb⟩; obtain ⟨A1, q1, rfl, hq1, hC1⟩ := Kd.R_reads hv; (have hbs := stay1 hb0 hb); (rw [HKe.out] at hC1 ⊢); (have HC1 := Lib.hid hC1); (have HX1 := Lib.hid (HX0.out.below hbs)); (have HB1 := Lib.hid (HBd.out.trans (hb.mono HBd.out.size))); (have Hb := Lib.hid hb); clear hb hbs hv hq1 hC1)
  refine Q.ev_done Hb.out (Nat.le_refl _) ?_
  clear Hb hb0 HXd HBd HX0
  refine wpQuiet_nil ?_
  go_wp2_with (go_at_call 34; refine (ras_any s _ HS.out.1).mono ?_; rintro e W2 ⟨rfl, hb⟩; (have HX2 := Lib.hid (HX1.out.below hb)); (have HB2 := Lib.hid (HB1.out.trans (hb.mono HB1.out.size))); (have Hb := Lib.hid hb); (have HC2 := Lib.hid (Kd.C_below HC1.out hb)); clear hb)
  refine Q.ev_done Hb.out (Nat.le_refl _) ?_
  clear Hb
  clear HX1 HB1 HC1
  refine wpQuiet_nil ?_
  go_wp2_with (go_at_call 39; refine (rparams_any s _ HS.out).mono ?_; rintro e W3 ⟨v, rfl, hv, hb⟩; obtain ⟨A3, q3, rfl, hq3, hC3⟩ := Kd.R_reads hv; (rw [HKe.out] at hC3 ⊢); (have HD3 := Lib.hid hC3); (have HC3 := Lib.hid (Kd.C_below HC2.out hb)); (have HX3 := Lib.hid (HX2.out.below hb)); (have HB3 := Lib.hid (HB2.out.trans (hb.mono HB2.out.size))); (have Hb := Lib.hid hb); clear hb hv hq3 hC3)
  refine Q.ev_done Hb.out (Nat.le_refl _) ?_
  clear Hb HX2 HB2 HC2
  repeat (go_big_quiet_step (fail))
  refine wpQuiet_nil ?_
  refine NoPanic.normal ?_
  go_wp2_with fail
  have HXd := Lib.hid HX3.out.drew
  refine Q.wp_region_segs none [([0, 1, 2, 3, 4, 5, 6, 8], some 7), ([], some 9), ([], some 10), ([11, 12], none)] (by kernel_rfl) (by kernel_rfl) (by kernel_rfl) (by kernel_rfl) ?_
  dsimp only [Q.wpSegs, Q.picks, Q.pick]
  repeat (go_big_quiet_step (fail))
  refine quiet_loadG tS (.tmp 2) (.pointer (some ⟨w.heap.size, 0, none⟩)) (.agg #[.int .u8 (s.1 : Int), .int .u32 (s.2.1 : Int), .int .u32 (s.2.2 : Int)]) rfl rfl rfl (HXd.out.loadQ (by exact HX3.out.lt)) ?_
  go_simp
  refine quiet_loadG tS (.tmp 2) (.pointer (some ⟨w.heap.size, 0, none⟩)) (.agg #[.int .u8 (s.1 : Int), .int .u32 (s.2.1 : Int), .int .u32 (s.2.2 : Int)]) rfl rfl rfl (HXd.out.loadQ (by exact HX3.out.lt)) ?_
  go_simp
  refine wpQuiet_nil ?_
  have hb0 := stay0 W3
  go_wp2_with (go_at_call 40; refine (right_any s _).mono ?_; rintro e W4 ⟨rfl, hb⟩; (have hbs := stay1 hb0 hb); (have HC4 := Lib.hid (Kd.C_below HC3.out hbs)); (have HD4 := Lib.hid (Kd.C_below HD3.out hbs)); (have HX4 := Lib.hid (HX3.out.below hbs)); (have HB4 := Lib.hid (HB3.out.trans (hbs.mono HB3.out.size))); (have Hb := Lib.hid hb); clear hb hbs)
  refine Q.ev_done Hb.out (Nat.le_refl _) ?_
  clear Hb hb0 HXd HX3 HB3 HC3 HD3
  refine wpQuiet_nil ?_
  go_wp2_with (go_at_call 34; refine (ras_any s _ HS.out.1).mono ?_; rintro e W5 ⟨rfl, hb⟩; (have HX5 := Lib.hid (HX4.out.below hb)); (have HB5 := Lib.hid (HB4.out.trans (hb.mono HB4.out.size))); (have Hb := Lib.hid hb); (have HC5 := Lib.hid (Kd.C_below HC4.out hb)); (have HD5 := Lib.hid (Kd.C_below HD4.out hb)); clear hb)
  refine Q.ev_done Hb.out (Nat.le_refl _) ?_
  clear Hb
  clear HX4 HB4 HC4 HD4
  refine wpQuiet_nil ?_
  go_wp2_with (go_at_call 35; refine (rright_any s _ HS.out).mono ?_; rintro e W6 ⟨rfl, hb⟩; (have HX6 := Lib.hid (HX5.out.below hb)); (have HB6 := Lib.hid (HB5.out.trans (hb.mono HB5.out.size))); (have Hb := Lib.hid hb); (have HC6 := Lib.hid (Kd.C_below HC5.out hb)); (have HD6 := Lib.hid (Kd.C_below HD5.out hb)); clear hb)
  refine Q.ev_done Hb.out (Nat.le_refl _) ?_
  clear Hb
  clear HX5 HB5 HC5 HD5
  obtain ⟨rb, hrb⟩ : ∃ rb, rightB s = rb := ⟨_, rfl⟩
  rw [hrb]
  have tb : (rb != rb) = false := by cases rb <;> rfl
  clear hrb
  repeat (go_big_quiet_step (fail))
  refine wpQuiet_nil ?_
  refine NoPanic.normal ?_
  clear t1 t1n tb
  have zk : (K : Int) ≤ 20 := by have := HKp.out; omega
  have M0 := Lib.hid (show Below W6.heap.size W6 W6 from Below.refl _ _)
  go_wp2_with fail
  go_loopg [7] (K + 1) (fun g v7 w' => ∃ i : Nat, v7 = .int .i64 (i : Int) ∧ Hid (i ≤ K ∧ K < g + i) ∧ Hid (Below W6.heap.size W6 w'))
  case atStart => exact ⟨0, rfl, Lib.hid ⟨by omega, by omega⟩, M0⟩
  case round =>
    obtain ⟨i, rfl, HJ, HV⟩ := hrel
    clear M0
    cases gk with
    | zero => have := HJ.out; omega
    | succ k =>
      by_cases hi : i < K
      · have HJ' := Lib.hid (show i < K ∧ K < (k + 1) + i from ⟨hi, HJ.out.2⟩)
        have hcc := Kd.C_below HC6.out HV.out
        have hdd := Kd.C_below HD6.out HV.out
        rw [← HKe.out] at hcc hdd
        have hne : parR s ≠ [] := fun h => by have := HKe.out; rw [h] at this; simp at this; omega
        obtain ⟨b, off, rfl, hb, hcell⟩ := (C_open hcc).2.resolve_left hne
        obtain ⟨b2, off2, rfl, hb2, hcell2⟩ := (C_open hdd).2.resolve_left hne
        have q0 := gw hb (hcell i (by rw [HKe.out]; exact hi))
        have q1 := gw hb2 (hcell2 i (by rw [HKe.out]; exact hi))
        obtain ⟨x, hx⟩ : ∃ x, (parR s).getD i 0 = x := ⟨_, rfl⟩
        rw [hx] at q0 q1
        have z4 : (i : Int) < (K : Int) := by omega
        have z5 : (0 : Int) ≤ (i : Int) := by omega
        clear hcc hdd hne hb hcell hb2 hcell2 hx hi HJ
        go_wp2_with fail
        refine Q.wp_region_segs none [([0, 1, 2, 3, 4, 5, 6, 7, 8], none)] (by kernel_rfl) (by kernel_rfl) (by kernel_rfl) (by kernel_rfl) ?_
        dsimp only [Q.wpSegs, Q.picks, Q.pick]
        repeat (go_big_quiet_step (fail))
        refine wpQuiet_nil ?_
        refine NoPanic.normal ?_
        clear q0 q1
        go_wp2_with fail
        go_roundg k
        case measure => have := HJ'.out; omega
        case rel => exact ⟨i + 1, by go_num, Lib.hid (by have := HJ'.out; omega), Lib.hid HV.out.drew⟩
      · obtain rfl : i = K := by have := HJ.out; omega
        have HX7 := Lib.hid (HX6.out.below HV.out)
        have HB7 := Lib.hid (HB6.out.trans (HV.out.mono HB6.out.size))
        clear hi HJ HX6 HB6 HC6 HD6 HV
        go_upto_region 11 with (fail)
        refine Q.wp_region_segs none [([], some 0), ([1, 2, 3, 6, 8], some 4), ([], some 5), ([], some 7), ([], some 9), ([10, 11, 12], none)] (by kernel_rfl) (by kernel_rfl) (by kernel_rfl) (by kernel_rfl) ?_
        dsimp only [Q.wpSegs, Q.picks, Q.pick]
        refine wpQuiet_nil ?_
        have hb0 := stay0 wr
        go_wp2_with (go_at_call 30; refine (alive_any _).mono ?_; rintro e Y1 ⟨rfl, hb⟩; (have hbs := stay1 hb0 hb); (have HX8 := Lib.hid (HX7.out.below hbs)); (have HB8 := Lib.hid (HB7.out.trans (hbs.mono HB7.out.size))); (have Hb := Lib.hid hb); clear hb hbs)
        refine Q.ev_done Hb.out (Nat.le_refl _) ?_
        clear Hb hb0 HX7 HB7
        go_big_quiet_step (fail)
        refine quiet_loadG tS (.tmp 2) (.pointer (some ⟨w.heap.size, 0, none⟩)) (.agg #[.int .u8 (s.1 : Int), .int .u32 (s.2.1 : Int), .int .u32 (s.2.2 : Int)]) rfl rfl rfl (HX8.out.loadQ (by exact HX8.out.lt)) ?_
        go_simp
        go_big_quiet_step (fail)
        refine quiet_loadG tS (.tmp 2) (.pointer (some ⟨w.heap.size, 0, none⟩)) (.agg #[.int .u8 (s.1 : Int), .int .u32 (s.2.1 : Int), .int .u32 (s.2.2 : Int)]) rfl rfl rfl (HX8.out.loadQ (by exact HX8.out.lt)) ?_
        go_simp
        repeat (go_big_quiet_step (fail))
        refine wpQuiet_nil ?_
        have hq := change_any s l A c Y1 HS.out (Kd.C_below HC.out HB8.out) HK.out
        have HQ := Lib.hid hq
        clear hq
        go_wp2_with (go_at_call 37; refine HQ.out.mono ?_; rintro e Y2 ⟨rfl, hb⟩; (have HB9 := Lib.hid (HB8.out.trans (hb.mono HB8.out.size))); (have Hb := Lib.hid hb); clear hb HQ)
        refine Q.ev_done Hb.out (Nat.le_refl _) ?_
        clear Hb HX8 HB8
        refine wpQuiet_nil ?_
        go_wp2_with (go_at_call 34; refine (ras_any (chgS s l) _ (chgS_ok l HS.out).1).mono ?_; rintro e Y3 ⟨rfl, hb⟩; (have HB10 := Lib.hid (HB9.out.trans (hb.mono HB9.out.size))); (have Hb := Lib.hid hb); clear hb)
        refine Q.ev_done Hb.out (Nat.le_refl _) ?_
        clear Hb HB9
        refine wpQuiet_nil ?_
        go_wp2_with (go_at_call 34; refine (ras_any s _ HS.out.1).mono ?_; rintro e Y4 ⟨rfl, hb⟩; (have HB11 := Lib.hid (HB10.out.trans (hb.mono HB10.out.size))); (have Hb := Lib.hid hb); clear hb)
        refine Q.ev_done Hb.out (Nat.le_refl _) ?_
        clear Hb HB10
        refine wpQuiet_nil ?_
        have hq := rchange_any s l A c Y4 HS.out (Kd.C_below HC.out HB11.out) (Nat.le_trans HLn.out (by decide))
        have HQ := Lib.hid hq
        clear hq
        go_wp2_with (go_at_call 41; refine HQ.out.mono ?_; rintro e Y5 ⟨rfl, hb⟩; (have HB12 := Lib.hid (HB11.out.trans (hb.mono HB11.out.size))); (have Hb := Lib.hid hb); clear hb HQ)
        refine Q.ev_done Hb.out (Nat.le_refl _) ?_
        clear Hb HB11
        rw [show rsA (chgS s l) = rfA (blN (chgS s l).1) (chgS s l).2.1 (chgS s l).2.2 from rfl]
        have heq := fun W => eq_R (blN_len (chgS s l).1) (chgS s l).2.1 (chgS s l).2.2 W
        repeat (go_big_quiet_step (fail))
        refine wpQuiet_nil ?_
        refine NoPanic.normal ?_
        go_wp2_with fail
        go_ret
        exact ⟨rfl, HB12.out⟩
end Go.Proofs.Ythgdbdhonhkkpaa.St
