/-
  sha: the law of asking.
-/
import Derived.Test.YtagfplcafeblbaaHl
namespace Go.Proofs.Ytagfplcafeblbaa.H
open Go.RowKit Go.Proofs.Ytagfplcafeblbaa.L Go.Proofs.Ytagfplcafeblbaa.N Go.Proofs.YtagfplcafeblbaaW.PrintWords

theorem info_rows : ∃ i, Try.prog.info? 22 = some i ∧ i.size = 1 := by
  have h : (Try.prog.info? 22).map (·.size) = some 1 := by kernel_rfl
  obtain ⟨i, hi, hs⟩ := Option.map_eq_some_iff.1 h
  exact ⟨i, hi, hs⟩
set_option maxRecDepth 100000 in
set_option maxHeartbeats 1600000 in
theorem asks_nat (L : List (List Nat)) (A : Option Addr) (c : Nat) (w : World) (h : RB w A L) (hm : L.length ≤ 9223372036854775807) (hc : L.length ≤ c) :
    Calls Try.prog 5 #[.slice A L.length c] w fun e w' => e = .returned (.bool true) ∧ Below w.heap.size w w' := by
  by_cases h1 : 20 < L.length
  · have z1 : decide ((20 : Int) < (L.length : Int)) = true := decide_eq_true (by omega)
    have z2 : (20 : Int) < (L.length : Int) := by omega
    have HAl := Lib.hid (alive_any w)
    clear h h1 hc
    go_enter Try.func5, Try.ntmps5
    go_wp2_with fail
    refine HAl.out.mono ?_
    rintro e w1 ⟨rfl, hb⟩
    go_wp2_with fail
    go_ret
    exact ⟨rfl, hb⟩
  have z1 : decide ((20 : Int) < (L.length : Int)) = false := decide_eq_false (by omega)
  have z2 : (L.length : Int) ≤ 20 := by omega
  have HR := Lib.hid h
  have HC := Lib.hid hc
  have HL := Lib.hid (show L.length ≤ 20 from by omega)
  clear h hc h1
  go_enter Try.func5, Try.ntmps5
  go_wp2_with fail
  refine (new_any w).mono ?_
  rintro e W1 ⟨b, rfl, hbW, hsh, hb1⟩
  have HB1 := Lib.hid hb1
  have HSh := Lib.hid hsh
  have HLt := Lib.hid hbW
  clear hbW hsh hb1
  go_wp2_with fail
  go_loopg [4, 5] (L.length + 1) (fun g v4 v5 w' => ∃ i n : Nat, v5 = .int .i64 i ∧ v4 = .int .i64 n ∧ Hid (i ≤ L.length ∧ L.length < g + i) ∧ Hid (SH b (L.take i).flatten w') ∧ Hid (Below w.heap.size w w') ∧ Hid (n = (L.take i).flatten.length ∧ n ≤ 500 * i))
  case atStart => exact ⟨0, 0, rfl, rfl, Lib.hid ⟨by omega, by omega⟩, HSh, HB1, Lib.hid ⟨rfl, Nat.zero_le _⟩⟩
  case round =>
    obtain ⟨i, n, rfl, rfl, HJ, HS, HB, HN⟩ := hrel
    clear HSh
    cases gk with
    | zero => have := HJ.out; omega
    | succ k =>
      by_cases hlt : i < L.length
      · have HJ' := Lib.hid (show i < L.length ∧ L.length < (k + 1) + i from ⟨hlt, HJ.out.2⟩)
        obtain ⟨bp, off, Aj, cj, rfl, hbpw, hc, hC, h8, _⟩ := HR.out i hlt
        replace hC := Kd.C_below hC HB.out
        replace hc := (HB.out.cell (p := ⟨bp, off + i, none⟩) hbpw).trans hc
        have HBpw := Lib.hid hbpw
        have hbp := Nat.lt_of_lt_of_le hbpw HB.out.size
        have hft := flatten_take hlt
        have hmx := (B_open hC).1
        have t1 : (0 : Int) ≤ (i : Int) := by omega
        have t2 : (i : Int) < (L.length : Int) := by omega
        have t3 : decide ((i : Int) < (L.length : Int)) = true := decide_eq_true t2
        have HFt := Lib.hid hft
        have HCx := Lib.hid hC
        have H8 := Lib.hid h8
        have HBp := Lib.hid hbp
        clear hft hC h8 hlt HJ hbp hbpw
        obtain ⟨x, hx⟩ : ∃ x, L.getD i [] = x := ⟨_, rfl⟩
        rw [hx] at hc hmx HFt HCx H8
        clear hx
        by_cases h5 : 500 < x.length
        · have t4 : decide ((500 : Int) < (x.length : Int)) = true := decide_eq_true (by omega)
          have t5 : (500 : Int) < (x.length : Int) := by omega
          clear h5
          go_wp2_with fail
          refine (alive_any wr).mono ?_
          rintro e w1 ⟨rfl, hb⟩
          have HB2 := Lib.hid (HB.out.trans (hb.mono HB.out.size))
          clear hb
          go_wp2_with fail
          go_ret
          exact ⟨rfl, HB2.out⟩
        have t4 : decide ((500 : Int) < (x.length : Int)) = false := decide_eq_false (by omega)
        have t5 : (x.length : Int) ≤ 500 := by omega
        have H5 := Lib.hid (show x.length ≤ 500 from by omega)
        have hq := add_any b (L.take i).flatten x Aj cj wr HS.out HCx.out H8.out (by have := HN.out; have := H5.out; have := HL.out; have := HJ'.out; omega) (by have := H5.out; omega)
        rw [← HFt.out] at hq
        have HQ := Lib.hid hq
        have t6 : (n : Int) + (x.length : Int) ≤ 10500 := by have := HN.out; have := H5.out; have := HL.out; have := HJ'.out; omega
        clear h5 hq
        go_wp2_with fail
        refine HQ.out.mono ?_
        rintro e w2 ⟨rfl, hs2, hg2⟩
        have HS2 := Lib.hid hs2
        have HB2 := Lib.hid (below_grown HB.out HB.out.size hg2 HLt.out)
        have hn2 : (L.take (i + 1)).flatten.length = n + x.length := by
          have := HFt.out
          rw [this, List.length_append, HN.out.1]
        have HN2 := Lib.hid hn2
        have hc2 : w2.cell? ⟨bp, off + i, none⟩ = some (.slice Aj x.length cj) := (World.cell?_of_block (a := ⟨bp, off + i, none⟩) (hg2.block bp HBp.out (fun e => by
          injection e with e
          subst e
          obtain ⟨A9, c9, h9⟩ := HS.out
          have h2 : wr.cell? ⟨bp, off + i, none⟩ = _ := hc
          have h10 : bp < w.heap.size := HBpw.out
          have := HLt.out
          omega))).trans hc
        clear hs2 hg2 HQ hn2 hc
        obtain ⟨F, hF⟩ : ∃ F, (L.take (i + 1)).flatten = F := ⟨_, rfl⟩
        obtain ⟨R, hR⟩ : ∃ R, shaN F = R := ⟨_, rfl⟩
        have hRl := shaN_length F
        have hFl : F.length ≤ 10500 := by rw [← hF, HN2.out]; omega
        have HFl := Lib.hid hFl
        rw [hF] at HS2 HN2
        have hq := sum_any b F w2 HS2.out (by omega)
        rw [hR] at hq hRl
        have HRl := Lib.hid hRl
        have HRr := Lib.hid hR
        have HFf := Lib.hid hF
        have HQ := Lib.hid hq
        clear hF hR hRl hFl hq
        go_wp2_with fail
        refine HQ.out.mono ?_
        rintro e w3 ⟨rfl, hb3⟩
        have HB3 := Lib.hid (HB2.out.trans (hb3.mono HB2.out.size))
        have HS3 := Lib.hid (HS2.out.below hb3)
        clear hb3 HQ HS2 HB2 hc2
        go_wp2_with (refine store_ab .u8 w3.heap.size z32 R rfl rfl rfl rfl rfl (AB.mk w3 .u8 tSum z32) (by rw [HRl.out]; exact info_sum) (by rw [HRl.out]; rfl) ?_; intro W5 h5 hg5; (have H6 := Lib.hid h5); (have HG5 := Lib.hid hg5); clear h5 hg5)
        obtain ⟨hb5, hs5⟩ := below_new HG5.out
        have hq := add_any b F [] none 0 W5 (HS3.out.below hb5) (C_none _) (by simp) (by have := HFl.out; simp; omega) (by simp)
        rw [List.append_nil] at hq
        simp only [List.length_nil] at hq
        have HQ := Lib.hid hq
        have HB5 := Lib.hid (HB3.out.trans (hb5.mono HB3.out.size))
        have hne6 : w3.heap.size ≠ b := fun e => by have := HS3.out.lt; omega
        have HNe := Lib.hid hne6
        clear hq hb5 hs5 HG5 HB3 HS3 hne6
        generalize w3.heap.size = b6 at *
        refine HQ.out.mono ?_
        rintro e w6 ⟨rfl, hs6, hg6⟩
        have HS6 := Lib.hid hs6
        have HB6 := Lib.hid (below_grown HB5.out HB5.out.size hg6 HLt.out)
        have H66 := Lib.hid (H6.out.grown hg6 (by intro e; injection e with e; exact HNe.out e))
        clear hs6 hg6 HQ HB5 H6
        go_wp2_with fail
        have HQ := Lib.hid (sum_any b F w6 HS6.out (by have := HFl.out; omega))
        rw [HRr.out] at HQ
        refine HQ.out.mono ?_
        rintro e w7 ⟨rfl, hb7⟩
        have HB7 := Lib.hid (HB6.out.trans (hb7.mono HB6.out.size))
        have HS7 := Lib.hid (HS6.out.below hb7)
        have H67 := Lib.hid (H66.out.below H66.out.lt hb7)
        clear hb7 HQ HB6 HS6 H66
        go_wp2_with (refine store_ab .u8 w7.heap.size z32 R rfl rfl rfl rfl rfl (AB.mk w7 .u8 tSum z32) (by rw [HRl.out]; exact info_sum) (by rw [HRl.out]; rfl) ?_; intro W8 h8 hg8; (have H9 := Lib.hid h8); (have HG8 := Lib.hid hg8); clear h8 hg8)
        obtain ⟨hb8, hs8⟩ := below_new HG8.out
        have HB8 := Lib.hid (HB7.out.trans (hb8.mono HB7.out.size))
        have HS8 := Lib.hid (HS7.out.below hb8)
        have H68 := Lib.hid (H67.out.below H67.out.lt hb8)
        obtain ⟨i0, hi0, _⟩ := info_rows
        have hcut := cut_to (P := Try.prog) 40 22 .i64 Try.underlying40 hi0 (some ⟨bp, off, none⟩) L.length c ((i : Int) + 1) (by omega) (by omega) HC.out
        rw [show ((i : Int) + 1).toNat = i + 1 from by omega] at hcut
        have heq := eq_sum R R HRl.out HRl.out
        have t7 : IntKind.i64.wrap ((i : Int) + 1) = (i : Int) + 1 := IntWalk.i64_in _ (by omega)
        clear hb8 hs8 HG8 HB7 HS7 H67
        generalize w7.heap.size = b9 at *
        refine Q.wp_region_segs none [([0, 1, 2, 3, 4, 5, 6, 7, 8, 9, 10, 11, 12, 13, 14, 15, 16, 18], some 17), ([19, 20, 21, 22, 23, 24, 25, 26], some 27), ([28, 29], none)] (by kernel_rfl) (by kernel_rfl) (by kernel_rfl) (by kernel_rfl) ?_
        dsimp only [Q.wpSegs, Q.picks, Q.pick]
        repeat (go_big_quiet_step (fail))
        refine quiet_loadG 29 (.tmp 6) (.pointer (some ⟨b6, 0, none⟩)) (.agg (arr .u8 R)) rfl rfl rfl ((H68.out.drew).loadQ Try.underlying29 (by rw [HRl.out]; exact info_sum)) ?_
        go_simp
        refine quiet_loadG 29 (.tmp 9) (.pointer (some ⟨b9, 0, none⟩)) (.agg (arr .u8 R)) rfl rfl rfl ((H9.out.drew).loadQ Try.underlying29 (by rw [HRl.out]; exact info_sum)) ?_
        go_simp
        repeat (go_big_quiet_step (fail))
        refine wpQuiet_nil ?_
        have hq := len_any b F W8.drew (HS8.out.below (stay0 W8))
        rw [show (F.length : Int) = (n : Int) + (x.length : Int) from by have := HN2.out; omega] at hq
        have HQ := Lib.hid hq
        clear hq
        go_wp2_with (go_at_call 20; refine HQ.out.mono ?_; rintro e w10 ⟨rfl, h10⟩; (rw [h10]); clear h10 w10)
        clear HQ
        refine Q.ev_keep (Below.refl _ _) (Nat.le_refl _) ?_
        repeat (go_big_quiet_step (fail))
        refine quiet_loadG 29 (.tmp 6) (.pointer (some ⟨b6, 0, none⟩)) (.agg (arr .u8 R)) rfl rfl rfl ((H68.out.drew).loadQ Try.underlying29 (by rw [HRl.out]; exact info_sum)) ?_
        go_simp
        repeat (go_big_quiet_step (fail))
        refine wpQuiet_nil ?_
        have htl : (L.take (i + 1)).length = i + 1 := by rw [List.length_take]; have := HJ'.out; omega
        have hq := of_any (L.take (i + 1)) (some ⟨bp, off, none⟩) c W8.drew (((HR.out.take (i + 1)).below HB8.out).below (stay0 W8)) (by rw [htl]; have := HJ'.out; have := HL.out; omega) (by rw [HFf.out]; have := HFl.out; omega) (fun y hy => by
          have h1 := (List.sublist_flatten_of_mem hy).length_le
          rw [HFf.out] at h1
          have := HFl.out
          omega)
        rw [htl, HFf.out, HRr.out] at hq
        have HQ := Lib.hid hq
        clear hq htl hcut
        go_wp2_with (go_at_call 18; refine HQ.out.mono ?_; rintro e w10 ⟨rfl, hb10⟩; (have HB10 := Lib.hid hb10); clear hb10)
        clear HQ
        refine Q.ev_keep HB10.out (Nat.le_refl _) ?_
        repeat (go_big_quiet_step (fail))
        refine wpQuiet_nil ?_
        refine NoPanic.normal ?_
        go_wp2_with fail
        go_roundg k
        case measure => have := HJ'.out; omega
        case rel => exact ⟨i + 1, n + x.length, by go_num, by go_num, Lib.hid (by have := HJ'.out; omega), Lib.hid (by rw [HFf.out]; exact (HS8.out.below (stay0 W8)).below HB10.out), Lib.hid (HB8.out.trans (((stay0 W8).trans HB10.out).mono HB8.out.size)), Lib.hid (by rw [HFf.out]; have := HN.out; have := H5.out; have := HN2.out; omega)⟩
      · have hi : i = L.length := by have := HJ.out; omega
        subst hi
        have t3 : decide ((L.length : Int) < (L.length : Int)) = false := decide_eq_false (by omega)
        go_wp2_with fail
        refine (alive_any wr).mono ?_
        rintro e w1 ⟨rfl, hb⟩
        have HB2 := Lib.hid (HB.out.trans (hb.mono HB.out.size))
        clear hb
        go_wp2_with fail
        go_ret
        exact ⟨rfl, HB2.out⟩
end Go.Proofs.Ytagfplcafeblbaa.H
