/-
  vint: the law VintNumbers, walked.
-/
import Derived.Test.YtigbmbmngkmdlaaVl
import Derived.Test.YtigbmbmngkmdlaaRc
import Derived.Test.YtigbmbmngkmdlaaRd
import Derived.Test.YtigbmbmngkmdlaaQ
namespace Go.Proofs.Ytigbmbmngkmdlaa.V
open Go.RowKit Go.Proofs.Ytigbmbmngkmdlaa.L Go.Proofs.YtigbmbmngkmdlaaW.PrintWords
attribute [local go_sem ↓] Go.wp_at_zero Go.wp_at_succ

set_option maxHeartbeats 3200000 in
set_option maxRecDepth 100000 in
theorem vnumbers_walk (v : Int) (l : List Int) (A : Option Addr) (c : Nat) (i : Int) (w : World) (hv : 0 ≤ v) (hC : (Kd.int .u8).C w A l.length l) (hc : l.length ≤ c) (hb : okB l) :
    Calls Try.prog 8 #[.int .u64 v, .slice A l.length c, .int .i64 i] w fun e w' => e = .returned (.bool true) ∧ Below w.heap.size w w' := by
  by_cases h2 : (2000 : Int) < (l.length : Int)
  · go_enter Try.func8, Try.ntmps8
    go_wp2_with fail
    refine (alive01 _).mono ?_
    rintro e w3 ⟨rfl, hb3⟩
    go_wp2
    go_ret
    exact ⟨rfl, hb3⟩
  have HC := Lib.hid hC
  have HL := Lib.hid h2
  have t2 : decide ((2000 : Int) < (l.length : Int)) = false := by simpa using h2
  have hP := fun w => put_any v w hv
  have hE : v ≤ 4611686018427387903 ∧ putE v = 0 ∨ ¬ v ≤ 4611686018427387903 ∧ putE v = 11 := by unfold putE; split <;> omega
  have HG := Lib.hid (fun (w' : World) (h : Below w.heap.size w w') => get_any l A c i w' (Kd.C_below hC h) hc hb)
  have HG2 := Lib.hid (fun (w' : World) (h : Below w.heap.size w w') => rget_any l A c i w' (Kd.C_below hC h) hc hb)
  have HN := Lib.hid (fun (w' : World) (h : Below w.heap.size w w') => numbers_any l A c w' (Kd.C_below hC h) hc hb (by omega))
  have HN2 := Lib.hid (fun (w' : World) (h : Below w.heap.size w w') => rnumbers_any l A c w' (Kd.C_below hC h) hc hb (by omega))
  have HS := Lib.hid (fun w => size_any v w)
  have HS2 := Lib.hid (fun w => rsize_any v w)
  have HP2 := Lib.hid (fun w => rput_any v w hv)
  clear h2 hC
  generalize getR l i = G at HG HG2
  obtain ⟨g1, g2, g3⟩ := G
  generalize numsR l = NR at HN HN2
  obtain ⟨ns, ne⟩ := NR
  generalize siz v = sz at HS HS2
  generalize putL v = pl at hP HP2
  have hE' : ∃ b, decide (v ≤ 4611686018427387903) = b ∧ putE v = (if b then 0 else 11) := by
    rcases hE with ⟨h, e⟩ | ⟨h, e⟩
    · exact ⟨true, decide_eq_true h, e⟩
    · exact ⟨false, decide_eq_false h, e⟩
  obtain ⟨bE, t3, he⟩ := hE'
  clear hE
  cases bE
  all_goals
    simp only [if_true, Bool.false_eq_true, if_false] at he
    rw [he] at hP
    have HP := Lib.hid hP
    clear hP he
    go_enter Try.func8, Try.ntmps8
    go_wp2_with fail
    refine (HP.out _).mono ?_
    rintro e w1 ⟨v1, rfl, ho1, hb1⟩
    obtain ⟨A1, c1, rfl, _, hC1⟩ := Kd.R_reads ho1
    have HB1 := Lib.hid hb1
    have HC1 := Lib.hid hC1
    clear hb1 ho1 hC1
    go_wp2_with fail
    refine (HG.out _ HB1.out).mono ?_
    rintro e w2 ⟨rfl, hb2⟩
    have HB2 := Lib.hid hb2
    have HW2 := Lib.hid (stay1 HB1.out hb2)
    clear hb2
    simp only [getV]
    go_wp2_with fail
    refine (HG2.out _ HW2.out).mono ?_
    rintro e w3 ⟨rfl, hb3⟩
    have HB3 := Lib.hid hb3
    have HW3 := Lib.hid (stay1 HW2.out hb3)
    clear hb3
    simp only [getV]
    go_wp2_with fail
    refine (HN.out _ HW3.out).mono ?_
    rintro e w4 ⟨v4, rfl, ho4, hb4⟩
    obtain ⟨A4, c4, rfl, _, hC4⟩ := Kd.R_reads ho4
    have HB4 := Lib.hid hb4
    have HW4 := Lib.hid (stay1 HW3.out hb4)
    have HC4 := Lib.hid hC4
    clear hb4 ho4 hC4
    go_wp2_with fail
    refine (HN2.out _ HW4.out).mono ?_
    rintro e w5 ⟨v5, rfl, ho5, hb5⟩
    obtain ⟨A5, c5, rfl, _, hC5⟩ := Kd.R_reads ho5
    have HB5 := Lib.hid hb5
    have HW5 := Lib.hid (stay1 HW4.out hb5)
    have HC5 := Lib.hid hC5
    clear hb5 ho5 hC5
    have HB15 := Lib.hid (stay1 (stay1 (stay1 HB2.out HB3.out) HB4.out) HB5.out)
    have hcv : ∀ n : Q.GW w5.drew, (convert 25 9 (.slice A1 pl.length c1)).run Try.prog n.w = .ok (.string (strOfNums pl)) n.w := fun n => Kd.C_string Try.underlying25 Try.underlying5 Try.underlying9 (Kd.C_below HC1.out (stay1 HB15.out (stay1 (stay0 w5) n.h)))
    go_wp2_with fail
    refine Q.wp_region_segs [([0, 1, 2], some 3), ([4, 5, 6, 7, 8, 9, 10, 11, 12, 13, 14, 15, 16, 17, 18, 19, 20, 21, 22, 23, 24, 25, 26, 27, 28, 29, 30, 31, 32, 33, 34, 35, 36, 37, 38, 39, 40, 41, 42, 43, 44, 45, 46, 47, 48, 49, 51], some 50), ([], some 52), ([53, 54], none)] (by kernel_rfl) (by kernel_rfl) (by kernel_rfl) (by kernel_rfl) ?_
    dsimp only [Q.wpSegs, Q.picks, Q.pick]
    repeat (go_big_quiet_step (fail))
    refine wpQuiet_nil ?_
    go_wp2_with (go_at_call 41; refine (HP2.out _).mono ?_; rintro e w6 ⟨v6, rfl, ho6, hb6⟩; obtain ⟨A6, c6, rfl, _, hC6⟩ := Kd.R_reads ho6; (have HB6 := Lib.hid hb6); (have HC6 := Lib.hid hC6); clear hb6 ho6 hC6)
    refine Q.ev_done HB6.out ?_
    have hcv6 : ∀ n : Q.GW w6, (convert 25 9 (.slice A6 pl.length c6)).run Try.prog n.w = .ok (.string (strOfNums pl)) n.w := fun n => Kd.C_string Try.underlying25 Try.underlying5 Try.underlying9 (Kd.C_below HC6.out n.h)
    clear hcv
    repeat (go_big_quiet_step (fail))
    refine wpQuiet_nil ?_
    go_wp2_with (go_at_call 34; refine (HS.out _).mono ?_; rintro e w7 ⟨rfl, hb7⟩; (have HB7 := Lib.hid hb7); clear hb7)
    refine Q.ev_done HB7.out ?_
    clear hcv6
    repeat (go_big_quiet_step (fail))
    refine wpQuiet_nil ?_
    go_wp2_with (go_at_call 42; refine (HS2.out _).mono ?_; rintro e w8 ⟨rfl, rfl⟩)
    refine Q.ev_done (Below.refl _ _) ?_
    repeat (go_big_quiet_step (fail))
    refine wpQuiet_nil ?_
    refine NoPanic.normal ?_
    have HB57 := Lib.hid (stay1 (stay1 (stay0 w5) HB6.out) HB7.out)
    have HW7 := Lib.hid (stay1 HW5.out HB57.out)
    have HC4' := Lib.hid (Kd.C_below (Kd.C_below HC4.out HB5.out) HB57.out)
    have HC5' := Lib.hid (Kd.C_below HC5.out HB57.out)
    clear HC4 HC5 HB57 HB6 HB7 HC6 HS HS2 HP HP2 HG HG2 HN HN2 HC HC1 HB1 HB2 HB3 HB4 HB5 HW2 HW3 HW4 HW5 HB15 t3
    go_wp2_with fail
    go_loopg [19] (ns.length + 1) (fun g v19 w' => ∃ j : Nat, v19 = .int .i64 j ∧ Hid (j ≤ ns.length ∧ ns.length < g + j) ∧ Hid (Below w7.heap.size w7 w'))
    case atStart => exact ⟨0, rfl, Lib.hid ⟨by omega, by omega⟩, Lib.hid (Below.refl _ _)⟩
    case round =>
      obtain ⟨j, rfl, HJ, HBr⟩ := hrel
      cases gk with
      | zero => have := HJ.out; omega
      | succ g =>
        obtain ⟨h4, hj2⟩ := HJ.out
        clear HJ
        have hmx := (C_open HC4'.out).1
        by_cases hlt : j < ns.length
        · obtain ⟨_, h4o⟩ := C_open HC4'.out
          obtain ⟨_, h5o⟩ := C_open HC5'.out
          rcases h4o with e | ⟨b4, o4, rfl, _, hc4⟩
          · subst e; simp at hlt
          rcases h5o with e | ⟨b5, o5, rfl, _, hc5⟩
          · subst e; simp at hlt
          have hc4' : ∀ n : Q.GW wr.drew, n.w.cell? ⟨b4, o4 + j, none⟩ = some (.int .u64 (ns.getD j 0)) := fun n => pw_cell_below (stay1 HBr.out (stay1 (stay0 wr) n.h)) (hc4 j hlt)
          have hc5' : ∀ n : Q.GW wr.drew, n.w.cell? ⟨b5, o5 + j, none⟩ = some (.int .u64 (ns.getD j 0)) := fun n => pw_cell_below (stay1 HBr.out (stay1 (stay0 wr) n.h)) (hc5 j hlt)
          clear hc4 hc5
          generalize ns.getD j 0 = nj at hc4' hc5'
          go_wp2_with fail
          refine Q.wp_region_segs [([0, 1, 2, 3, 4, 5, 6, 7, 8], none)] (by kernel_rfl) (by kernel_rfl) (by kernel_rfl) (by kernel_rfl) ?_
          dsimp only [Q.wpSegs, Q.picks, Q.pick]
          repeat (go_big_quiet_step (fail))
          refine wpQuiet_nil ?_
          refine NoPanic.normal ?_
          go_wp2
          go_roundg g
          case measure => omega
          case rel => exact ⟨j + 1, by go_num, Lib.hid ⟨by omega, by omega⟩, Lib.hid (HBr.out.drew)⟩
        · go_wp2_with fail
          refine (alive01 _).mono ?_
          rintro e w9 ⟨rfl, hb9⟩
          go_wp2
          go_ret
          exact ⟨rfl, stay1 (stay1 HW7.out HBr.out) hb9⟩
end Go.Proofs.Ytigbmbmngkmdlaa.V
