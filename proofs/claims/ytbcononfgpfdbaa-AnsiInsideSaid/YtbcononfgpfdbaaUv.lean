/-
  ansi: AnsiInside.
-/
import Derived.Test.YtbcononfgpfdbaaUq
namespace Go.Proofs.Ytbcononfgpfdbaa.An
open Go.RowKit Go.Proofs.Ytbcononfgpfdbaa.L Go.Proofs.Ytbcononfgpfdbaa.N Go.Proofs.YtbcononfgpfdbaaW.PrintWords

set_option maxRecDepth 100000 in
set_option maxHeartbeats 6400000 in
theorem inside_walk (l : List Int) (A : Option Addr) (c : Nat) (at' : Int) (u' : Int) (w : World) (hC : (Kd.int .i32).C w A l.length l) (hu' : 0 ≤ u' ∧ u' < 256) :
    Calls Try.prog 10 #[.slice A l.length c, .int .i64 at', .int .u8 u'] w fun e w' => e = .returned (.bool true) ∧ Below w.heap.size w w' := by
  obtain ⟨u, rfl⟩ : ∃ u : Nat, u' = (u : Int) := ⟨u'.toNat, by omega⟩
  have hp := low31 u (by omega)
  obtain ⟨p, hpp⟩ : ∃ p : Int, ((u % 32 : Nat) : Int) = p := ⟨_, rfl⟩
  rw [hpp] at hp
  have p0 : 0 ≤ p := by omega
  have p1 : p < 32 := by omega
  clear hpp hu'
  by_cases hg0 : 60 < l.length
  · have tg0 : decide ((60 : Int) < (l.length : Int)) = true := decide_eq_true (by omega)
    clear hC hg0
    go_enter Try.func10, Try.ntmps10
    go_wp2_with fail
    refine (alive_any _).mono ?_
    rintro e w1 ⟨rfl, hb⟩
    go_wp2_with fail
    go_ret
    exact ⟨rfl, hb⟩
  have tg0 : decide ((60 : Int) < (l.length : Int)) = false := decide_eq_false (by omega)
  by_cases hg1 : at' < 0
  · have tg1 : decide (at' < 0) = true := decide_eq_true (by omega)
    clear hC hg0 hg1
    go_enter Try.func10, Try.ntmps10
    go_wp2_with fail
    refine (alive_any _).mono ?_
    rintro e w1 ⟨rfl, hb⟩
    go_wp2_with fail
    go_ret
    exact ⟨rfl, hb⟩
  have tg1 : decide (at' < 0) = false := decide_eq_false (by omega)
  by_cases hg2 : (l.length : Int) < at'
  · have tg2 : decide ((l.length : Int) < at') = true := decide_eq_true (by omega)
    clear hC hg0 hg1 hg2
    go_enter Try.func10, Try.ntmps10
    go_wp2_with fail
    refine (alive_any _).mono ?_
    rintro e w1 ⟨rfl, hb⟩
    go_wp2_with fail
    go_ret
    exact ⟨rfl, hb⟩
  have tg2 : decide ((l.length : Int) < at') = false := decide_eq_false (by omega)
  by_cases hg3 : p = 24
  · have tg3 : ((p : Int) == 24) = true := beq_iff_eq.2 (by omega)
    have tf3 : decide ((p : Int) = 24) = true := decide_eq_true (by omega)
    clear hC hg0 hg1 hg2 hg3
    go_enter Try.func10, Try.ntmps10
    go_wp2_with fail
    refine (alive_any _).mono ?_
    rintro e w1 ⟨rfl, hb⟩
    go_wp2_with fail
    go_ret
    exact ⟨rfl, hb⟩
  have tg3 : ((p : Int) == 24) = false := beq_eq_false_iff_ne.2 (by omega)
  have tf3 : decide ((p : Int) = 24) = false := decide_eq_false (by omega)
  have tn3 : ¬ (p : Int) = 24 := by omega
  by_cases hg4 : p = 26
  · have tg4 : ((p : Int) == 26) = true := beq_iff_eq.2 (by omega)
    have tf4 : decide ((p : Int) = 26) = true := decide_eq_true (by omega)
    clear hC hg0 hg1 hg2 hg3 hg4
    go_enter Try.func10, Try.ntmps10
    go_wp2_with fail
    refine (alive_any _).mono ?_
    rintro e w1 ⟨rfl, hb⟩
    go_wp2_with fail
    go_ret
    exact ⟨rfl, hb⟩
  have tg4 : ((p : Int) == 26) = false := beq_eq_false_iff_ne.2 (by omega)
  have tf4 : decide ((p : Int) = 26) = false := decide_eq_false (by omega)
  have tn4 : ¬ (p : Int) = 26 := by omega
  by_cases hg5 : p = 27
  · have tg5 : ((p : Int) == 27) = true := beq_iff_eq.2 (by omega)
    have tf5 : decide ((p : Int) = 27) = true := decide_eq_true (by omega)
    clear hC hg0 hg1 hg2 hg3 hg4 hg5
    go_enter Try.func10, Try.ntmps10
    go_wp2_with fail
    refine (alive_any _).mono ?_
    rintro e w1 ⟨rfl, hb⟩
    go_wp2_with fail
    go_ret
    exact ⟨rfl, hb⟩
  have tg5 : ((p : Int) == 27) = false := beq_eq_false_iff_ne.2 (by omega)
  have tf5 : decide ((p : Int) = 27) = false := decide_eq_false (by omega)
  have tn5 : ¬ (p : Int) = 27 := by omega
  obtain ⟨i, rfl⟩ : ∃ k : Nat, at' = (k : Int) := ⟨at'.toNat, by omega⟩
  have HLn := Lib.hid (show l.length ≤ 60 ∧ i ≤ l.length from ⟨by omega, by omega⟩)
  have HC := Lib.hid hC
  have HPt := Lib.hid (show ctlB p from ⟨p0, p1, hg3, hg4, hg5⟩)
  have z1 : (i : Int) ≤ (l.length : Int) := by omega
  have z2 : (0 : Int) ≤ (i : Int) := by omega
  have z3 : (l.length : Int) ≤ 60 := by omega
  clear hC hg0 hg1 hg2 hg3 hg4 hg5
  go_enter Try.func10, Try.ntmps10
  go_wp2_with (at_builtin; first
    | (refine appL (w0 := w) w.heap.size (.tmp 46) (.tmp 47) rfl rfl nilS [] [27, 91] _ rfl (by decide) rfl rfl (Kd.R_nil _ _ _ _ _) (Below.refl _ _) (Nat.le_refl _) (by decide) ?_; intro v8 w1 hr1 hb1 _ _; (obtain ⟨A8, c8, hv8⟩ := Kd.R_slice hr1); (have hv8' : v8 = .slice A8 2 c8 := hv8); (subst hv8'; clear hv8); (have HR1 := Lib.hid hr1); (have HB1 := Lib.hid hb1); clear hr1 hb1)
    | (refine appL (w0 := w) w.heap.size (.tmp 49) (.tmp 50) rfl rfl nilS [] [27, 91] _ rfl (by decide) rfl rfl (Kd.R_nil _ _ _ _ _) HB1.out HB1.out.size (by decide) ?_; intro v9 w2 hr2 hb2 hg2 ha2; (obtain ⟨A9, c9, hv9⟩ := Kd.R_slice hr2); (have hv9' : v9 = .slice A9 2 c9 := hv9); (subst hv9'; clear hv9); (have HR2 := Lib.hid hr2); (have HB2 := Lib.hid hb2); (have HR8 := Lib.hid (Q.R_apart HR1.out (Ap_nil _).symm hg2)); (have HAp := Lib.hid (Q.Ap.step (Ap_nil _) ha2 (Kd.R_lt HR1.out)).symm); clear hr2 hb2 hg2 ha2 HB1))
  go_loopg [8, 9, 10] (l.length + 1) (fun g v8 v9 v10 w' => ∃ (k n8 n9 : Nat) (A8 A9 : Option Addr) (c8 c9 : Nat), v8 = .slice A8 n8 c8 ∧ v9 = .slice A9 n9 c9 ∧ v10 = .int .i64 (k : Int) ∧ Hid (k ≤ l.length ∧ l.length < g + k) ∧ Hid (∀ x ∈ l.take k, seqB x) ∧ Hid ((Kd.int .i32).R tR w' w.heap.size (fun _ => True) (.slice A8 n8 c8) ([27, 91] ++ l.take k)) ∧ Hid ((Kd.int .i32).R tR w' w.heap.size (fun _ => True) (.slice A9 n9 c9) (wi l i p k)) ∧ Hid (Q.Ap (.slice A8 n8 c8) (.slice A9 n9 c9)) ∧ Hid (Below w.heap.size w w'))
  case atStart => exact ⟨0, 2, 2, A8, A9, c8, c9, rfl, rfl, rfl, Lib.hid ⟨by omega, by omega⟩, Lib.hid (fun x hx => by cases hx), HR8, Lib.hid (by rw [wi_zero]; exact HR2.out), HAp, HB2⟩
  case round =>
    obtain ⟨k, n8, n9, A8, A9, c8, c9, rfl, rfl, rfl, HJ, HX, HRp, HRw, HAw, HB⟩ := hrel
    cases gk with
    | zero => have := HJ.out; have := HLn.out; omega
    | succ g1 =>
      by_cases hk : k < l.length
      · have HJ' := Lib.hid (show k < l.length ∧ l.length < (g1 + 1) + k from ⟨hk, HJ.out.2⟩)
        have z4 : (k : Int) < (l.length : Int) := by omega
        have z5 : (0 : Int) ≤ (k : Int) := by omega
        obtain ⟨bm, om, rfl, hbm, hcm⟩ := (C_open HC.out).2.resolve_left (fun h => by rw [h] at hk; exact absurd hk (by simp))
        have k00 := hcm k hk
        have HSt := Lib.hid (fun (hx : seqB (l.getD k 0)) => show ∀ x ∈ l.take (k + 1), seqB x from fun x hm => by
          rw [take_next hk] at hm
          rcases List.mem_append.1 hm with hm | hm
          · exact HX.out x hm
          · rw [List.mem_singleton.1 hm]
            exact hx)
        have HTn := Lib.hid (take_next hk)
        have HWe := Lib.hid (fun hne => wi_next (l := l) (i := i) p hk hne)
        have HWa := Lib.hid (wi_at (l := l) p hk)
        have HBm := Lib.hid hbm
        obtain ⟨x, hx⟩ : ∃ x, l.getD k 0 = x := ⟨_, rfl⟩
        rw [hx] at k00 HSt HTn HWe HWa
        have k0 := (HB.out.cell (p := ⟨bm, om + k, none⟩) hbm).trans k00
        have HK0 := Lib.hid k00
        clear hx hcm hbm hk HJ k00
        by_cases h1 : x < 32
        · have lt32 : (x : Int) < 32 := by omega
          have ld32 : decide ((x : Int) < 32) = true := decide_eq_true (by omega)
          have HAl := Lib.hid (alive_any wr)
          clear HSt HTn HWe HWa h1
          go_wp2_with fail
          refine HAl.out.mono ?_
          rintro e w12 ⟨rfl, hb12⟩
          have HBz := Lib.hid (HB.out.trans (hb12.mono HB.out.size))
          clear hb12 HAl
          go_wp2_with fail
          go_ret
          exact ⟨rfl, HBz.out⟩
        · by_cases h2 : 63 < x
          · have lt32 : ¬ (x : Int) < 32 := by omega
            have ld32 : decide ((x : Int) < 32) = false := decide_eq_false (by omega)
            have ltm : (63 : Int) < x := by omega
            have ldm : decide ((63 : Int) < x) = true := decide_eq_true (by omega)
            have HAl := Lib.hid (alive_any wr)
            clear HSt HTn HWe HWa h1 h2
            go_wp2_with fail
            refine HAl.out.mono ?_
            rintro e w12 ⟨rfl, hb12⟩
            have HBz := Lib.hid (HB.out.trans (hb12.mono HB.out.size))
            clear hb12 HAl
            go_wp2_with fail
            go_ret
            exact ⟨rfl, HBz.out⟩
          · have hs : seqB x := ⟨by omega, by omega⟩
            have HS2 := Lib.hid (HSt.out hs)
            have lt32 : ¬ (x : Int) < 32 := by omega
            have ld32 : decide ((x : Int) < 32) = false := decide_eq_false (by omega)
            have ltm : ¬ (63 : Int) < x := by omega
            have ldm : decide ((63 : Int) < x) = false := decide_eq_false (by omega)
            clear hs HSt h1 h2
            by_cases hki : k = i
            · subst hki
              go_wp2_with (at_builtin; refine appL (w0 := w) w.heap.size (.tmp 74) (.tmp 76) rfl rfl _ _ [p] _ rfl (by simp) rfl rfl HRw.out HB.out HB.out.size (by have := HLn.out; have := HJ'.out; have := wi_len (l := l) (i := k) (k := k) p (by omega) (by omega); simp; omega) ?_; intro v9 w1 hr1 hb1 hg1 ha1; (obtain ⟨A9, c9, hv9⟩ := Kd.R_slice hr1); (obtain ⟨n9, hn9⟩ : ∃ n, (wi l k p k ++ [p]).length = n := ⟨_, rfl⟩); (rw [hn9] at hv9; subst hv9; clear hn9); (have HRw1 := Lib.hid hr1); (have HB1 := Lib.hid hb1); (have HRp1 := Lib.hid (Q.R_apart HRp.out HAw.out hg1)); (have HAw1 := Lib.hid (Q.Ap.step HAw.out.symm ha1 (Kd.R_lt HRp.out)).symm); (clear k0); (have HSz := Lib.hid (show w.heap.size ≤ w1.heap.size from hb1.size)); (have k0 := (hb1.cell (p := ⟨bm, om + k, none⟩) HBm.out).trans HK0.out); clear hr1 hb1 hg1 ha1)
              have q0 : ∀ x' : Q.GW w1.drew w.heap.size none, x'.w.cell? ⟨bm, om + k, none⟩ = some (.int .i32 x) := fun x' => (x'.belowB (Nat.le_refl _) (fun _ h => by cases h)).cell (p := ⟨bm, om + k, none⟩) HBm.out |>.trans k0
              refine Q.wp_region_trB w.heap.size none (.two [0, 1, 2, 3, 4, 7, 8, 9, 10, 11] 5 (.two [] 6 (.ev [] 12 (.ev [] 13 (.done [14, 15]))) 12 (.ev [] 6 (.ev [] 13 (.done [14, 15])))) 12 (.ev [] 5 (.ev [] 6 (.ev [] 13 (.done [14, 15]))))) (by kernel_rfl) (by kernel_rfl) (by kernel_rfl) (by kernel_rfl) ?_
              refine Q.two_pre ?_
              dsimp only [Q.picks, Q.pick]
              repeat (go_big_quiet_step (fail))
              refine wpQuiet_nil ?_
              clear q0 k0
              refine Q.app2e 83 84 90 91 52 tR 52 tR .i32 .i32 4 4 (.tmp 78) (.tmp 82) (.tmp 85) (.tmp 89) (.slice A8 n8 c8) (.slice A9 n9 c9) ([27, 91] ++ l.take k) (wi l k p k ++ [p]) x x ⟨rfl, rfl, rfl⟩ ⟨rfl, rfl, rfl⟩ ⟨rfl, rfl, rfl⟩ ⟨rfl, rfl, rfl⟩ Try.underlying52 info_r (by decide) Try.underlying52 info_r (by decide) HAw1.out (by rfl) (⟨Nat.le_of_ble_eq_true rfl, Nat.le_of_ble_eq_true rfl, Nat.le_of_ble_eq_true rfl, Nat.le_of_ble_eq_true rfl⟩) (by rfl) rfl rfl rfl rfl (Kd.R_below HRp1.out (stay0 _)) (Kd.R_below HRw1.out (stay0 _)) HB1.out.size (by have := HLn.out; have := HJ'.out; simp [List.length_take]; omega) (by have := HLn.out; have := HJ'.out; have := wi_len (l := l) (i := k) (k := k) p (by omega) (by omega); simp; omega) ?_
              intro u1 u3 v5 v6 w5 hr5 hr6 hb5 ha5
              obtain ⟨A5, c5, hv5⟩ := Kd.R_slice hr5
              obtain ⟨A6, c6, hv6⟩ := Kd.R_slice hr6
              obtain ⟨n5, hn5⟩ : ∃ n, ([27, 91] ++ l.take k ++ [x]).length = n := ⟨_, rfl⟩
              obtain ⟨n6, hn6⟩ : ∃ n, (wi l k p k ++ [p] ++ [x]).length = n := ⟨_, rfl⟩
              rw [hn5] at hv5
              rw [hn6] at hv6
              subst hv5 hv6
              have HR5 := Lib.hid (show (Kd.int .i32).R tR w5 w.heap.size (fun _ => True) (.slice A5 n5 c5) ([27, 91] ++ l.take (k + 1)) from by rw [HTn.out, ← List.append_assoc]; exact hr5)
              have HR6 := Lib.hid (show (Kd.int .i32).R tR w5 w.heap.size (fun _ => True) (.slice A6 n6 c6) (wi l k p (k + 1)) from by rw [← HWa.out]; exact hr6)
              have HB5 := Lib.hid ((HB1.out.trans ((stay0 _).mono HB1.out.size)).trans hb5)
              have HA5 := Lib.hid ha5
              clear hr5 hr6 hb5 ha5 hn5 hn6
              dsimp only [Q.picks, Q.pick]
              go_simp
              repeat (go_big_quiet_step (fail))
              refine wpQuiet_nil ?_
              refine NoPanic.normal ?_
              go_wp2_with fail
              go_roundg g1
              case measure => have := HJ'.out; omega
              case rel => exact ⟨k + 1, n5, n6, A5, A6, c5, c6, by go_num, by go_num, by go_num, Lib.hid (by have := HJ'.out; omega), HS2, HR5, HR6, HA5, HB5⟩
            · have HK := Lib.hid hki
              have e1 : ((k : Int) == (i : Int)) = false := beq_eq_false_iff_ne.2 (by omega)
              have e2 : decide ((k : Int) = (i : Int)) = false := decide_eq_false (by omega)
              have e3 : ¬ (k : Int) = (i : Int) := by omega
              have e4 : ¬ k = i := hki
              go_wp2_with fail
              have q0 : ∀ x' : Q.GW wr.drew w.heap.size none, x'.w.cell? ⟨bm, om + k, none⟩ = some (.int .i32 x) := fun x' => (x'.belowB (Nat.le_refl _) (fun _ h => by cases h)).cell (p := ⟨bm, om + k, none⟩) HBm.out |>.trans k0
              refine Q.wp_region_trB w.heap.size none (.two [0, 1, 2, 3, 4, 7, 8, 9, 10, 11] 5 (.two [] 6 (.ev [] 12 (.ev [] 13 (.done [14, 15]))) 12 (.ev [] 6 (.ev [] 13 (.done [14, 15])))) 12 (.ev [] 5 (.ev [] 6 (.ev [] 13 (.done [14, 15]))))) (by kernel_rfl) (by kernel_rfl) (by kernel_rfl) (by kernel_rfl) ?_
              refine Q.two_pre ?_
              dsimp only [Q.picks, Q.pick]
              repeat (go_big_quiet_step (fail))
              refine wpQuiet_nil ?_
              clear q0 k0
              refine Q.app2e 83 84 90 91 52 tR 52 tR .i32 .i32 4 4 (.tmp 78) (.tmp 82) (.tmp 85) (.tmp 89) (.slice A8 n8 c8) (.slice A9 n9 c9) ([27, 91] ++ l.take k) (wi l i p k) x x ⟨rfl, rfl, rfl⟩ ⟨rfl, rfl, rfl⟩ ⟨rfl, rfl, rfl⟩ ⟨rfl, rfl, rfl⟩ Try.underlying52 info_r (by decide) Try.underlying52 info_r (by decide) HAw.out (by rfl) (⟨Nat.le_of_ble_eq_true rfl, Nat.le_of_ble_eq_true rfl, Nat.le_of_ble_eq_true rfl, Nat.le_of_ble_eq_true rfl⟩) (by rfl) rfl rfl rfl rfl (Kd.R_below HRp.out (stay0 _)) (Kd.R_below HRw.out (stay0 _)) HB.out.size (by have := HLn.out; have := HJ'.out; simp [List.length_take]; omega) (by have := HLn.out; have := HJ'.out; have := wi_len (l := l) (i := i) (k := k) p (by omega) (by omega); simp; omega) ?_
              intro u1 u3 v5 v6 w5 hr5 hr6 hb5 ha5
              obtain ⟨A5, c5, hv5⟩ := Kd.R_slice hr5
              obtain ⟨A6, c6, hv6⟩ := Kd.R_slice hr6
              obtain ⟨n5, hn5⟩ : ∃ n, ([27, 91] ++ l.take k ++ [x]).length = n := ⟨_, rfl⟩
              obtain ⟨n6, hn6⟩ : ∃ n, (wi l i p k ++ [x]).length = n := ⟨_, rfl⟩
              rw [hn5] at hv5
              rw [hn6] at hv6
              subst hv5 hv6
              have HR5 := Lib.hid (show (Kd.int .i32).R tR w5 w.heap.size (fun _ => True) (.slice A5 n5 c5) ([27, 91] ++ l.take (k + 1)) from by rw [HTn.out, ← List.append_assoc]; exact hr5)
              have HR6 := Lib.hid (show (Kd.int .i32).R tR w5 w.heap.size (fun _ => True) (.slice A6 n6 c6) (wi l i p (k + 1)) from by rw [← HWe.out hki]; exact hr6)
              have HB5 := Lib.hid ((HB.out.trans ((stay0 _).mono HB.out.size)).trans hb5)
              have HA5 := Lib.hid ha5
              clear hr5 hr6 hb5 ha5 hn5 hn6
              dsimp only [Q.picks, Q.pick]
              go_simp
              repeat (go_big_quiet_step (fail))
              refine wpQuiet_nil ?_
              refine NoPanic.normal ?_
              go_wp2_with fail
              go_roundg g1
              case measure => have := HJ'.out; omega
              case rel => exact ⟨k + 1, n5, n6, A5, A6, c5, c6, by go_num, by go_num, by go_num, Lib.hid (by have := HJ'.out; omega), HS2, HR5, HR6, HA5, HB5⟩
      · obtain rfl : k = l.length := by have := HJ.out; omega
        have HX1 := Lib.hid (show ∀ x ∈ l, seqB x from by have := HX.out; rwa [List.take_length] at this)
        have HR8 := Lib.hid (show (Kd.int .i32).R tR wr w.heap.size (fun _ => True) (.slice A8 n8 c8) ([27, 91] ++ l) from by have := HRp.out; rwa [List.take_length] at this)
        have HRun := Lib.hid (run_inside HX1.out i HPt.out)
        clear hk HX HRp
        by_cases hil : i = l.length
        · subst hil
          go_wp2_with (at_builtin; refine appL (w0 := w) w.heap.size (.tmp 96) (.tmp 98) rfl rfl _ _ [p] _ rfl (by simp) rfl rfl HRw.out HB.out HB.out.size (by have := wi_len (l := l) (i := l.length) (k := l.length) p (Nat.le_refl _) (Nat.le_refl _); have := HLn.out; simp; omega) ?_; intro v9 w1 hr1 hb1 hg1 ha1; (obtain ⟨A9, c9, hv9⟩ := Kd.R_slice hr1); (obtain ⟨n9, hn9⟩ : ∃ n, (wi l l.length p l.length ++ [p]).length = n := ⟨_, rfl⟩); (rw [hn9] at hv9; subst hv9; clear hn9); rw [wi_last] at hr1; (have HR9 := Lib.hid hr1); (have HB1 := Lib.hid hb1); (have HAp := Lib.hid (Q.Ap.step HAw.out.symm ha1 (Kd.R_lt HR8.out)).symm); (have HR8 := Lib.hid (Q.R_apart HR8.out HAw.out hg1)); clear hr1 hb1 hg1 ha1 HRw HB HAw)
          refine (newp_any w1).mono ?_
          rintro e w3 ⟨bp, rfl, hbp, hp3, hw3⟩
          have HP3 := Lib.hid hp3
          have HGp := Lib.hid (show w.heap.size ≤ bp from Nat.le_trans HB1.out.size hbp)
          have HR83 := Lib.hid (Kd.R_below HR8.out hw3)
          have HR93 := Lib.hid (Kd.R_below HR9.out hw3)
          have HB3 := Lib.hid (HB1.out.trans (hw3.mono HB1.out.size))
          clear hbp hp3 hw3 HR8 HR9 HB1
          go_wp2_with fail
          refine (newp_any w3).mono ?_
          rintro e w4 ⟨bq, rfl, hbq, hq4, hw4⟩
          have HQ4 := Lib.hid hq4
          have HGq := Lib.hid (show w.heap.size ≤ bq from Nat.le_trans HB3.out.size hbq)
          have HNe := Lib.hid (show bq ≠ bp from by have := HP3.out.lt; omega)
          have HP4 := Lib.hid (HP3.out.below hw4)
          have HR84 := Lib.hid (Kd.R_below HR83.out hw4)
          have HR94 := Lib.hid (Kd.R_below HR93.out hw4)
          have HB4 := Lib.hid (HB3.out.trans (hw4.mono HB3.out.size))
          clear hbq hq4 hw4 HR83 HR93 HB3 HP3
          obtain ⟨E, hEl, hE1, hE2⟩ := HRun.out
          have HEl := Lib.hid hEl
          have HE1 := Lib.hid hE1
          have HE2 := Lib.hid hE2
          have HLi := Lib.hid (show (l.take l.length ++ p :: l.drop l.length).length ≤ 61 from by have := HLn.out; simp [List.length_take, List.length_drop]; omega)
          clear hEl hE1 hE2 HRun
          generalize (l.take l.length ++ p :: l.drop l.length) = LW at *
          go_wp2_with (at_builtin; refine appL (w0 := w) w.heap.size (.tmp 104) (.tmp 105) rfl rfl _ _ [113] _ rfl (by simp) rfl rfl HR84.out HB4.out HB4.out.size (by have := HLn.out; simp; omega) ?_; intro v5 w5 hr5 hb5 hg5 ha5; (obtain ⟨A5, c5, hv5⟩ := Kd.R_slice hr5); (obtain ⟨n5, hn5⟩ : ∃ n, (([27, 91] ++ l) ++ [113]).length = n := ⟨_, rfl⟩); (rw [hn5] at hv5; subst hv5); (have Hn5 := Lib.hid hn5); (have HR5 := Lib.hid hr5); (have HB5 := Lib.hid hb5); (have HP5 := Lib.hid (pm_grown HP4.out HR84.out hg5 (Ap_nil _))); (have HQ5 := Lib.hid (pm_grown HQ4.out HR84.out hg5 (Ap_nil _))); (have HR95 := Lib.hid (Q.R_apart HR94.out HAp.out.symm hg5)); clear hn5 hr5 hb5 hg5 ha5 HP4 HQ4 HR94 HR84 HB4 HAp)
          have hf := feed_any _ bp nilS nilS (enS 0) (([27, 91] ++ l) ++ [113]) A5 c5 w5 HP5.out (by rw [Hn5.out]; have := (Kd.R_reads' HR5.out).2.2; rw [Hn5.out] at this; exact this) (by have := HLn.out; simp; omega) (fun _ ad e => ⟨row_ne HR5.out HP5.out.blk ad e, by simp [Value.ownBlock], by simp [Value.ownBlock]⟩)
          rw [Hn5.out, HE1.out] at hf
          have HF := Lib.hid hf
          clear hf
          refine HF.out.mono ?_
          rintro e w6 ⟨vp6, vt6, vr6, rfl, hp6, hr6, ht6⟩
          have HP6 := Lib.hid hp6
          have HR6 := Lib.hid hr6
          have HR96 := Lib.hid (row_stay0 HR95.out ht6 HP5.out.blk)
          have HQ6 := Lib.hid (pm_stay HQ5.out ht6 HP5.out HNe.out (fun k hk => by simp [Value.ownBlock] at hk) (fun k hk => by simp [Value.ownBlock] at hk) rfl rfl)
          have HB6 := Lib.hid (TR.low ht6 HB5.out HGp.out (fun k hk => by simp [Value.ownBlock] at hk) (fun k hk => by simp [Value.ownBlock] at hk) HB5.out.size)
          have HA6 := Lib.hid (Ap_new ht6.nt HR95.out)
          obtain ⟨A6, c6, hv6⟩ := Kd.R_slice HR6.out
          obtain ⟨n6, hn6⟩ : ∃ n, E.length = n := ⟨_, rfl⟩
          rw [hn6] at hv6
          subst hv6
          have Hn6 := Lib.hid hn6
          clear hp6 hr6 ht6 hn6 HF HR95 HQ5 HB5 HP5 HR5
          go_wp2_with (at_builtin; refine appL (w0 := w) w.heap.size (.tmp 112) (.tmp 113) rfl rfl _ _ [113] _ rfl (by simp) rfl rfl HR96.out HB6.out HB6.out.size (by have := HLi.out; simp; omega) ?_; intro v7 w7 hr7 hb7 hg7 ha7; (obtain ⟨A7, c7, hv7⟩ := Kd.R_slice hr7); (obtain ⟨n7, hn7⟩ : ∃ n, (([27, 91] ++ LW) ++ [113]).length = n := ⟨_, rfl⟩); (rw [hn7] at hv7; subst hv7); (have Hn7 := Lib.hid hn7); (have HR7 := Lib.hid hr7); (have HB7 := Lib.hid hb7); (have HP7 := Lib.hid (pm_grown HP6.out HR96.out hg7 HA6.out)); (have HQ7 := Lib.hid (pm_grown HQ6.out HR96.out hg7 (Ap_nil _))); (have HE7 := Lib.hid (Kd.R_over HR6.out HR96.out (by intro q hq; simp [kE, Kd.pair, Kd.slice, Kd.string, Kd.int, Kd.scalar] at hq; rcases hq with rfl | rfl <;> decide) hg7)); clear hn7 hr7 hb7 hg7 ha7 HP6 HQ6 HR96 HB6 HA6 HR6)
          have hf := feed_any _ bq nilS nilS (enS 0) (([27, 91] ++ LW) ++ [113]) A7 c7 w7 HQ7.out (by rw [Hn7.out]; have := (Kd.R_reads' HR7.out).2.2; rw [Hn7.out] at this; exact this) (by have := HLi.out; simp; omega) (fun _ ad e => ⟨row_ne HR7.out HQ7.out.blk ad e, by simp [Value.ownBlock], by simp [Value.ownBlock]⟩)
          rw [Hn7.out, HE2.out] at hf
          have HF := Lib.hid hf
          clear hf
          refine HF.out.mono ?_
          rintro e w8 ⟨vp8, vt8, vr8, rfl, hp8, hr8, ht8⟩
          have HQ8 := Lib.hid hp8
          have HE8 := Lib.hid (evs_stay0 HE7.out ht8 HQ7.out.blk)
          have HP8 := Lib.hid (pm_stay HP7.out ht8 HQ7.out (Ne.symm HNe.out) (fun k hk => ⟨fun e => by
                obtain ⟨cc, hcc⟩ := Kd.R_typed HP7.out.par k hk
                rw [e, HQ7.out.blk] at hcc
                injection hcc with hcc
                injection hcc with _ hcc _
                exact absurd hcc (by decide), by simp [Value.ownBlock], by simp [Value.ownBlock]⟩) (fun k hk => ⟨fun e => by
                obtain ⟨cc, hcc⟩ := Kd.R_typed HP7.out.txt k hk
                rw [e, HQ7.out.blk] at hcc
                injection hcc with hcc
                injection hcc with _ hcc _
                exact absurd hcc (by decide), by simp [Value.ownBlock], by simp [Value.ownBlock]⟩) rfl rfl)
          have HB8 := Lib.hid (TR.low ht8 HB7.out HGq.out (fun k hk => by simp [Value.ownBlock] at hk) (fun k hk => by simp [Value.ownBlock] at hk) HB7.out.size)
          obtain ⟨g8, c8', hv8, _, _, h8⟩ := ev_at hr8 (by simp)
          have HR8r := Lib.hid hr8
          obtain ⟨n8', hn8⟩ : ∃ n, (ctE p :: E).length = n := ⟨_, rfl⟩
          have Hn8 := Lib.hid (show n8' = n6 + 1 from by rw [← hn8, ← Hn6.out]; rfl)
          rw [hn8] at hv8
          subst hv8
          obtain ⟨P8, p8, f8, _, _⟩ := h8 0 (by simp)
          have f80 : w8.cell? ⟨g8, 0, none⟩ = some (.int .i64 2) := f8 0 (by decide)
          have f81 : w8.cell? ⟨g8, 1, none⟩ = some (.int .i32 p) := f8 1 (by decide)
          have Hb8 := Lib.hid ((Kd.R_reads' hr8).2)
          rw [hn8] at Hb8
          obtain ⟨A9', c9', hcut, hcutC⟩ := cutE_from (some ⟨g8, 0, none⟩) n8' c8' (by have := Hn8.out; omega) (by have := Hb8.out.1; exact this)
          have HCut := Lib.hid hcutC
          have hn6z : (n6 : Int) ≤ 160 := by have := HEl.out; have := HLn.out; have := Hn6.out; omega
          have hn8z : (n8' : Int) = (n6 : Int) + 1 := by have := Hn8.out; omega
          rw [show n8' - 1 = n6 from by have := Hn8.out; omega] at hcut HCut
          clear hp8 hr8 ht8 hn8 h8 f8 HF HE7 HQ7 HB7 HP7 HR7 hcutC
          go_wp2_with fail
          refine (alive_any w8).mono ?_
          rintro e w9 ⟨rfl, hb9⟩
          have HB9 := Lib.hid (HB8.out.trans (hb9.mono HB8.out.size))
          have HP9 := Lib.hid (HP8.out.below hb9)
          have HQ9 := Lib.hid (HQ8.out.below hb9)
          have h1 := (Kd.R_reads' HE8.out).2.2
          rw [Hn6.out] at h1
          have h2 := HCut.out w8 (ctE p :: E) (by have := Hn8.out; simp [Hn6.out, this]) Hb8.out.2
          have hq := all_true E A6 A9' c6 c9' w9 (by rw [Hn6.out]; exact Kd.C_below h1 hb9) (by rw [Hn6.out]; exact Kd.C_below h2 hb9)
          rw [Hn6.out] at hq
          have HQA := Lib.hid hq
          clear hb9 h1 h2 hq HB8 HP8 HQ8 HE8 Hb8 f80 f81 HCut HR8r
          go_wp2_with fail
          refine HQA.out.mono ?_
          rintro e w10 ⟨rfl, hb10⟩
          have HBz := Lib.hid (HB9.out.trans (hb10.mono HB9.out.size))
          have HPz := Lib.hid (HP9.out.below hb10)
          have HQz := Lib.hid (HQ9.out.below hb10)
          clear hb10 HB9 HP9 HQ9 HQA hcut
          have HI1 := Lib.hid (idle_any _ bp _ _ _ _ _ _ w10 HPz.out)
          have HI2 := Lib.hid (idle_any _ bq _ _ _ _ _ _ w10 HQz.out)
          rw [show decide ((enS 0).st = 0) = true from rfl] at HI1 HI2
          go_wp2_with fail
          refine HI1.out.mono ?_
          rintro e w11 ⟨rfl, hw⟩
          rw [hw]
          clear hw w11
          go_wp2_with fail
          refine HI2.out.mono ?_
          rintro e w11 ⟨rfl, hw⟩
          rw [hw]
          clear hw w11
          go_wp2_with fail
          go_ret
          exact ⟨rfl, HBz.out⟩
        · have hil' : i < l.length := by have := HLn.out; omega
          have HR9 := Lib.hid (show (Kd.int .i32).R tR wr w.heap.size (fun _ => True) (.slice A9 n9 c9) ([27, 91] ++ (l.take i ++ p :: l.drop i)) from by have := HRw.out; rwa [wi_end p hil'] at this)
          have HB1 := HB
          have HAp := HAw
          have e1 : ((i : Int) == (l.length : Int)) = false := beq_eq_false_iff_ne.2 (by omega)
          have e2 : decide ((i : Int) = (l.length : Int)) = false := decide_eq_false (by omega)
          have e3 : ¬ (i : Int) = (l.length : Int) := by omega
          have e4 : ¬ i = l.length := hil
          clear hil hil' HB HAw HRw
          go_wp2_with fail
          refine (newp_any wr).mono ?_
          rintro e w3 ⟨bp, rfl, hbp, hp3, hw3⟩
          have HP3 := Lib.hid hp3
          have HGp := Lib.hid (show w.heap.size ≤ bp from Nat.le_trans HB1.out.size hbp)
          have HR83 := Lib.hid (Kd.R_below HR8.out hw3)
          have HR93 := Lib.hid (Kd.R_below HR9.out hw3)
          have HB3 := Lib.hid (HB1.out.trans (hw3.mono HB1.out.size))
          clear hbp hp3 hw3 HR8 HR9 HB1
          go_wp2_with fail
          refine (newp_any w3).mono ?_
          rintro e w4 ⟨bq, rfl, hbq, hq4, hw4⟩
          have HQ4 := Lib.hid hq4
          have HGq := Lib.hid (show w.heap.size ≤ bq from Nat.le_trans HB3.out.size hbq)
          have HNe := Lib.hid (show bq ≠ bp from by have := HP3.out.lt; omega)
          have HP4 := Lib.hid (HP3.out.below hw4)
          have HR84 := Lib.hid (Kd.R_below HR83.out hw4)
          have HR94 := Lib.hid (Kd.R_below HR93.out hw4)
          have HB4 := Lib.hid (HB3.out.trans (hw4.mono HB3.out.size))
          clear hbq hq4 hw4 HR83 HR93 HB3 HP3
          obtain ⟨E, hEl, hE1, hE2⟩ := HRun.out
          have HEl := Lib.hid hEl
          have HE1 := Lib.hid hE1
          have HE2 := Lib.hid hE2
          have HLi := Lib.hid (show (l.take i ++ p :: l.drop i).length ≤ 61 from by have := HLn.out; simp [List.length_take, List.length_drop]; omega)
          clear hEl hE1 hE2 HRun
          generalize (l.take i ++ p :: l.drop i) = LW at *
          go_wp2_with (at_builtin; refine appL (w0 := w) w.heap.size (.tmp 104) (.tmp 105) rfl rfl _ _ [113] _ rfl (by simp) rfl rfl HR84.out HB4.out HB4.out.size (by have := HLn.out; simp; omega) ?_; intro v5 w5 hr5 hb5 hg5 ha5; (obtain ⟨A5, c5, hv5⟩ := Kd.R_slice hr5); (obtain ⟨n5, hn5⟩ : ∃ n, (([27, 91] ++ l) ++ [113]).length = n := ⟨_, rfl⟩); (rw [hn5] at hv5; subst hv5); (have Hn5 := Lib.hid hn5); (have HR5 := Lib.hid hr5); (have HB5 := Lib.hid hb5); (have HP5 := Lib.hid (pm_grown HP4.out HR84.out hg5 (Ap_nil _))); (have HQ5 := Lib.hid (pm_grown HQ4.out HR84.out hg5 (Ap_nil _))); (have HR95 := Lib.hid (Q.R_apart HR94.out HAp.out.symm hg5)); clear hn5 hr5 hb5 hg5 ha5 HP4 HQ4 HR94 HR84 HB4 HAp)
          have hf := feed_any _ bp nilS nilS (enS 0) (([27, 91] ++ l) ++ [113]) A5 c5 w5 HP5.out (by rw [Hn5.out]; have := (Kd.R_reads' HR5.out).2.2; rw [Hn5.out] at this; exact this) (by have := HLn.out; simp; omega) (fun _ ad e => ⟨row_ne HR5.out HP5.out.blk ad e, by simp [Value.ownBlock], by simp [Value.ownBlock]⟩)
          rw [Hn5.out, HE1.out] at hf
          have HF := Lib.hid hf
          clear hf
          refine HF.out.mono ?_
          rintro e w6 ⟨vp6, vt6, vr6, rfl, hp6, hr6, ht6⟩
          have HP6 := Lib.hid hp6
          have HR6 := Lib.hid hr6
          have HR96 := Lib.hid (row_stay0 HR95.out ht6 HP5.out.blk)
          have HQ6 := Lib.hid (pm_stay HQ5.out ht6 HP5.out HNe.out (fun k hk => by simp [Value.ownBlock] at hk) (fun k hk => by simp [Value.ownBlock] at hk) rfl rfl)
          have HB6 := Lib.hid (TR.low ht6 HB5.out HGp.out (fun k hk => by simp [Value.ownBlock] at hk) (fun k hk => by simp [Value.ownBlock] at hk) HB5.out.size)
          have HA6 := Lib.hid (Ap_new ht6.nt HR95.out)
          obtain ⟨A6, c6, hv6⟩ := Kd.R_slice HR6.out
          obtain ⟨n6, hn6⟩ : ∃ n, E.length = n := ⟨_, rfl⟩
          rw [hn6] at hv6
          subst hv6
          have Hn6 := Lib.hid hn6
          clear hp6 hr6 ht6 hn6 HF HR95 HQ5 HB5 HP5 HR5
          go_wp2_with (at_builtin; refine appL (w0 := w) w.heap.size (.tmp 112) (.tmp 113) rfl rfl _ _ [113] _ rfl (by simp) rfl rfl HR96.out HB6.out HB6.out.size (by have := HLi.out; simp; omega) ?_; intro v7 w7 hr7 hb7 hg7 ha7; (obtain ⟨A7, c7, hv7⟩ := Kd.R_slice hr7); (obtain ⟨n7, hn7⟩ : ∃ n, (([27, 91] ++ LW) ++ [113]).length = n := ⟨_, rfl⟩); (rw [hn7] at hv7; subst hv7); (have Hn7 := Lib.hid hn7); (have HR7 := Lib.hid hr7); (have HB7 := Lib.hid hb7); (have HP7 := Lib.hid (pm_grown HP6.out HR96.out hg7 HA6.out)); (have HQ7 := Lib.hid (pm_grown HQ6.out HR96.out hg7 (Ap_nil _))); (have HE7 := Lib.hid (Kd.R_over HR6.out HR96.out (by intro q hq; simp [kE, Kd.pair, Kd.slice, Kd.string, Kd.int, Kd.scalar] at hq; rcases hq with rfl | rfl <;> decide) hg7)); clear hn7 hr7 hb7 hg7 ha7 HP6 HQ6 HR96 HB6 HA6 HR6)
          have hf := feed_any _ bq nilS nilS (enS 0) (([27, 91] ++ LW) ++ [113]) A7 c7 w7 HQ7.out (by rw [Hn7.out]; have := (Kd.R_reads' HR7.out).2.2; rw [Hn7.out] at this; exact this) (by have := HLi.out; simp; omega) (fun _ ad e => ⟨row_ne HR7.out HQ7.out.blk ad e, by simp [Value.ownBlock], by simp [Value.ownBlock]⟩)
          rw [Hn7.out, HE2.out] at hf
          have HF := Lib.hid hf
          clear hf
          refine HF.out.mono ?_
          rintro e w8 ⟨vp8, vt8, vr8, rfl, hp8, hr8, ht8⟩
          have HQ8 := Lib.hid hp8
          have HE8 := Lib.hid (evs_stay0 HE7.out ht8 HQ7.out.blk)
          have HP8 := Lib.hid (pm_stay HP7.out ht8 HQ7.out (Ne.symm HNe.out) (fun k hk => ⟨fun e => by
                obtain ⟨cc, hcc⟩ := Kd.R_typed HP7.out.par k hk
                rw [e, HQ7.out.blk] at hcc
                injection hcc with hcc
                injection hcc with _ hcc _
                exact absurd hcc (by decide), by simp [Value.ownBlock], by simp [Value.ownBlock]⟩) (fun k hk => ⟨fun e => by
                obtain ⟨cc, hcc⟩ := Kd.R_typed HP7.out.txt k hk
                rw [e, HQ7.out.blk] at hcc
                injection hcc with hcc
                injection hcc with _ hcc _
                exact absurd hcc (by decide), by simp [Value.ownBlock], by simp [Value.ownBlock]⟩) rfl rfl)
          have HB8 := Lib.hid (TR.low ht8 HB7.out HGq.out (fun k hk => by simp [Value.ownBlock] at hk) (fun k hk => by simp [Value.ownBlock] at hk) HB7.out.size)
          obtain ⟨g8, c8', hv8, _, _, h8⟩ := ev_at hr8 (by simp)
          have HR8r := Lib.hid hr8
          obtain ⟨n8', hn8⟩ : ∃ n, (ctE p :: E).length = n := ⟨_, rfl⟩
          have Hn8 := Lib.hid (show n8' = n6 + 1 from by rw [← hn8, ← Hn6.out]; rfl)
          rw [hn8] at hv8
          subst hv8
          obtain ⟨P8, p8, f8, _, _⟩ := h8 0 (by simp)
          have f80 : w8.cell? ⟨g8, 0, none⟩ = some (.int .i64 2) := f8 0 (by decide)
          have f81 : w8.cell? ⟨g8, 1, none⟩ = some (.int .i32 p) := f8 1 (by decide)
          have Hb8 := Lib.hid ((Kd.R_reads' hr8).2)
          rw [hn8] at Hb8
          obtain ⟨A9', c9', hcut, hcutC⟩ := cutE_from (some ⟨g8, 0, none⟩) n8' c8' (by have := Hn8.out; omega) (by have := Hb8.out.1; exact this)
          have HCut := Lib.hid hcutC
          have hn6z : (n6 : Int) ≤ 160 := by have := HEl.out; have := HLn.out; have := Hn6.out; omega
          have hn8z : (n8' : Int) = (n6 : Int) + 1 := by have := Hn8.out; omega
          rw [show n8' - 1 = n6 from by have := Hn8.out; omega] at hcut HCut
          clear hp8 hr8 ht8 hn8 h8 f8 HF HE7 HQ7 HB7 HP7 HR7 hcutC
          go_wp2_with fail
          refine (alive_any w8).mono ?_
          rintro e w9 ⟨rfl, hb9⟩
          have HB9 := Lib.hid (HB8.out.trans (hb9.mono HB8.out.size))
          have HP9 := Lib.hid (HP8.out.below hb9)
          have HQ9 := Lib.hid (HQ8.out.below hb9)
          have h1 := (Kd.R_reads' HE8.out).2.2
          rw [Hn6.out] at h1
          have h2 := HCut.out w8 (ctE p :: E) (by have := Hn8.out; simp [Hn6.out, this]) Hb8.out.2
          have hq := all_true E A6 A9' c6 c9' w9 (by rw [Hn6.out]; exact Kd.C_below h1 hb9) (by rw [Hn6.out]; exact Kd.C_below h2 hb9)
          rw [Hn6.out] at hq
          have HQA := Lib.hid hq
          clear hb9 h1 h2 hq HB8 HP8 HQ8 HE8 Hb8 f80 f81 HCut HR8r
          go_wp2_with fail
          refine HQA.out.mono ?_
          rintro e w10 ⟨rfl, hb10⟩
          have HBz := Lib.hid (HB9.out.trans (hb10.mono HB9.out.size))
          have HPz := Lib.hid (HP9.out.below hb10)
          have HQz := Lib.hid (HQ9.out.below hb10)
          clear hb10 HB9 HP9 HQ9 HQA hcut
          have HI1 := Lib.hid (idle_any _ bp _ _ _ _ _ _ w10 HPz.out)
          have HI2 := Lib.hid (idle_any _ bq _ _ _ _ _ _ w10 HQz.out)
          rw [show decide ((enS 0).st = 0) = true from rfl] at HI1 HI2
          go_wp2_with fail
          refine HI1.out.mono ?_
          rintro e w11 ⟨rfl, hw⟩
          rw [hw]
          clear hw w11
          go_wp2_with fail
          refine HI2.out.mono ?_
          rintro e w11 ⟨rfl, hw⟩
          rw [hw]
          clear hw w11
          go_wp2_with fail
          go_ret
          exact ⟨rfl, HBz.out⟩
end Go.Proofs.Ytbcononfgpfdbaa.An
