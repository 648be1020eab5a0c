/-
  aes: Words; AesWords.
-/
import Derived.Test.YtblnclooobggnaaAk
namespace Go.Proofs.Ytblnclooobggnaa.A
open Go.RowKit Go.Proofs.Ytblnclooobggnaa.L Go.Proofs.Ytblnclooobggnaa.N Go.Proofs.YtblnclooobggnaaW.PrintWords

abbrev tW : TypeId := 37
theorem info_W : (Try.prog.info? tW).map (·.size) = some 176 := by kernel_rfl
theorem g4_0 (a b c d : Nat) : [a, b, c, d].getD 0 0 = a := rfl
theorem g4_1 (a b c d : Nat) : [a, b, c, d].getD 1 0 = b := rfl
theorem g4_2 (a b c d : Nat) : [a, b, c, d].getD 2 0 = c := rfl
theorem g4_3 (a b c d : Nat) : [a, b, c, d].getD 3 0 = d := rfl
theorem WS_pre (key : List Nat) (hk : key.length = 16) {j n : Nat} (hj : j < 16 + 4 * n) : ∀ d, (WS key (n + d)).getD j 0 = (WS key n).getD j 0
  | 0 => rfl
  | d + 1 => by
    rw [show n + (d + 1) = (n + d) + 1 from by omega, WS_succ, getD_left (by rw [WS_len hk]; omega)]
    exact WS_pre key hk hj d
theorem WK_at {key : List Nat} (hk : key.length = 16) {j n : Nat} (hn : n ≤ 40) (hj : j < 16 + 4 * n) : (WK key).getD j 0 = (WS key n).getD j 0 := by
  have := WS_pre key hk hj (40 - n)
  rwa [show n + (40 - n) = 40 from by omega] at this
theorem WK_key {key : List Nat} (hk : key.length = 16) {j : Nat} (hj : j < 16) : (WK key).getD j 0 = key.getD j 0 := by
  rw [WK_at hk (n := 0) (by omega) (by omega), WS]
theorem WK_new {key : List Nat} (hk : key.length = 16) {n k : Nat} (hn : n < 40) (h4 : k < 4) : (WK key).getD (4 * (n + 4) + k) 0 = (WK key).getD (4 * n + k) 0 ^^^ (tmpW (WS key n) (n + 4)).getD k 0 := by
  rw [WK_at hk (n := n + 1) (by omega) (by omega), WS_succ, show 4 * (n + 4) + k = (16 + 4 * n) + k from by omega, getD_right k (WS_len hk n), nxtW_get _ n h4, WK_at hk (n := n) (by omega) (by omega)]
theorem WK_plain {key : List Nat} (hk : key.length = 16) {n k : Nat} (hn : n < 40) (h4 : k < 4) (hm : n % 4 ≠ 0) : (WK key).getD (4 * (n + 4) + k) 0 = (WK key).getD (4 * n + k) 0 ^^^ (WK key).getD (4 * (n + 3) + k) 0 := by
  rw [WK_new hk hn h4, tmpW, if_neg (by omega), show n + 4 - 1 = n + 3 from by omega, WK_at hk (n := n) (j := 4 * (n + 3) + k) (by omega) (by omega)]
  rcases (show k = 0 ∨ k = 1 ∨ k = 2 ∨ k = 3 from by omega) with h | h | h | h <;> subst h
  · simp only [g4_0, Nat.add_zero]
  · rw [g4_1]
  · rw [g4_2]
  · rw [g4_3]
theorem WK_turn {key : List Nat} (hk : key.length = 16) {n k : Nat} (hn : n < 40) (h4 : k < 4) (h0 : 0 < k) (hm : n % 4 = 0) : (WK key).getD (4 * (n + 4) + k) 0 = (WK key).getD (4 * n + k) 0 ^^^ bxv ((WK key).getD (4 * (n + 3) + (k + 1) % 4) 0) := by
  rw [WK_new hk hn h4, tmpW, if_pos (by omega), show n + 4 - 1 = n + 3 from by omega, WK_at hk (n := n) (j := 4 * (n + 3) + (k + 1) % 4) (by omega) (by omega)]
  rcases (show k = 1 ∨ k = 2 ∨ k = 3 from by omega) with h | h | h <;> subst h
  · rw [g4_1, show (1 + 1) % 4 = 2 from rfl]
  · rw [g4_2, show (2 + 1) % 4 = 3 from rfl]
  · simp only [g4_3, show (3 + 1) % 4 = 0 from rfl, Nat.add_zero]
set_option maxRecDepth 100000 in
set_option maxHeartbeats 3200000 in
theorem words_any (b : Nat) (tn : Int) (key : List Nat) (w : World) (h : CU b key tn w) (hk : key.length = 16) (hk8 : ∀ x ∈ key, x < 256) :
    Calls Try.prog 19 #[.pointer (some ⟨b, 0, none⟩)] w fun e w' => e = .returned (.agg (arr .u8 (WK key))) ∧ CB b 1 0 true (MF key) tn w' ∧ w.grownBy w' (some b) := by
  have HBl := Lib.hid h.lt
  have HU := Lib.hid h
  have HK := Lib.hid hk
  have HK8 := Lib.hid hk8
  have HWl := Lib.hid (WK_len hk)
  clear h hk hk8
  go_enter Try.func19, Try.ntmps19
  go_upto_region 1 with (fail)
  refine wp_at fun W hW => ?_
  have hb : Below w.heap.size w W := by rw [hW]; exact (Below.refl _ _).alloc (Nat.le_refl _) _
  have HZ := Lib.hid (show AB .u8 tW w.heap.size z176 W from by rw [hW]; exact AB.mk w .u8 _ z176)
  have HB := Lib.hid (grown_below hb (some b))
  have HU1 := Lib.hid (HU.out.below hb)
  have HR := Lib.hid (ready_any b tn key W HU1.out HK.out HK8.out)
  clear hW hb HU HU1
  go_upto_region 3 with (go_at_call 37; refine HR.out.mono ?_; rintro e w1 ⟨rfl, hs1, hg1⟩; (have HC1 := Lib.hid hs1); (have HG1 := Lib.hid hg1); clear hs1 hg1 HR)
  have HZ1 := Lib.hid (HZ.out.grown HG1.out (fun e => by injection e with e; have := HBl.out; omega))
  have HRg := Lib.hid (show w1.rangeAt b 532 (bys (WK key)) from HC1.out.range (o := 528) (cs := WK key) (fun j _ => MM_ws HK.out boxT_len twT_len j) (by rw [HWl.out]; omega))
  have hi := info_W
  rw [← HWl.out] at hi
  have Hi := Lib.hid hi
  clear hi HZ
  go_wp2_with (first
    | (refine load_midA b 532 (WK key) rfl rfl rfl HRg.out Try.underlying37 Hi.out ?_)
    | (refine store_ab .u8 w.heap.size z176 (WK key) rfl rfl rfl rfl rfl HZ1.out Hi.out (by rw [HWl.out]; exact List.length_replicate) ?_; intro w9 h9 hg9; (have H9 := Lib.hid h9); (have HG9 := Lib.hid hg9); clear h9 hg9))
  have hl := H9.out.load (P := Try.prog) Try.underlying37 Hi.out
  exact bodyPost_ret (v := .agg (arr .u8 (WK key))) (by simp [results, Try.results19, hl, Act.put, asAddr]) rfl ⟨rfl, HC1.out.grown HG9.out (by have := HBl.out; omega), grown_up (HB.out.trans HG1.out) HG9.out (Nat.le_refl _)⟩
set_option maxRecDepth 100000 in
set_option maxHeartbeats 6400000 in
theorem words_walk (key : List Nat) (w : World) (hk : key.length = 16) (hk8 : ∀ x ∈ key, x < 256) : Calls Try.prog 6 #[.agg (arr .u8 key)] w fun e w' => e = .returned (.bool true) ∧ Below w.heap.size w w' := by
  have HK := Lib.hid hk
  have HK8 := Lib.hid hk8
  have HWl := Lib.hid (WK_len hk)
  have HV1 := Lib.hid (fun j (hj : j < 16) => WK_key hk hj)
  have HV2 := Lib.hid (fun n k (hn : n < 40) (h4 : k < 4) (hm : n % 4 ≠ 0) => WK_plain hk hn h4 hm)
  have HV3 := Lib.hid (fun n k (hn : n < 40) (h4 : k < 4) (h0 : 0 < k) (hm : n % 4 = 0) => WK_turn hk hn h4 h0 hm)
  have HV8 := Lib.hid (WK_lt hk8)
  have HWA := Lib.hid (fun b W (h : CU b key 0 W) => words_any b 0 key W h hk hk8)
  have hi := info_W
  rw [← WK_len hk] at hi
  have Hi := Lib.hid hi
  clear hi hk hk8
  generalize WK key = V at *
  go_enter Try.func6, Try.ntmps6
  go_upto_region 1 with (fail)
  refine wp_at fun W hW => ?_
  have HB := Lib.hid (show Below w.heap.size w W from by rw [hW]; exact (Below.refl _ _).alloc (Nat.le_refl _) _)
  have HKW := Lib.hid (show AB .u8 27 w.heap.size key W from by rw [hW]; exact AB.mk w .u8 _ key)
  clear hW
  generalize hn : w.heap.size = n0 at *
  have Hn := Lib.hid hn
  clear hn
  go_upto_region 2 with (first
    | (refine load_ab .u8 n0 key rfl rfl rfl HKW.out Try.underlying27 (by rw [HK.out]; exact info_key) ?_)
    | (go_at_call 16; refine (new_any key W HK.out).mono ?_; rintro e w3 ⟨c, rfl, hc1, hc2, hc3⟩; (have HC1 := Lib.hid (show n0 < c from by have := HKW.out.lt; omega)); (have HCU := Lib.hid hc2); (have HK3 := Lib.hid (HKW.out.below HKW.out.lt hc3)); (have HB3 := Lib.hid (HB.out.trans ⟨hc3.os, hc3.tape, hc3.output, hc3.size, fun k hk => hc3.block k (by have := HKW.out.lt; omega)⟩)); clear hc1 hc2 hc3)
    | (go_at_call 19; refine (HWA.out c w3 HCU.out).mono ?_; rintro e w4 ⟨rfl, _, hg⟩; (have HK4 := Lib.hid (HK3.out.grown hg (fun e => by injection e with e; have := HC1.out; omega))); (have HB4 := Lib.hid (below_grown HB3.out (by have := HK3.out.lt; omega) hg (by have := HC1.out; omega))); clear hg)
    | (refine store_ab .u8 w4.heap.size z176 V rfl rfl rfl rfl rfl (AB.mk w4 .u8 _ z176) Hi.out (by rw [HWl.out]; exact List.length_replicate) ?_; intro w5 h5 hg5; (have HV5 := Lib.hid h5); (have HG5 := Lib.hid (below_new hg5)); clear h5 hg5))
  have HN5 := Lib.hid (show n0 < w4.heap.size from HK4.out.lt)
  have HK5 := Lib.hid (HK4.out.below HK4.out.lt HG5.out.1)
  have HB5 := Lib.hid (show Below n0 w w5 from HB4.out.trans ⟨HG5.out.1.os, HG5.out.1.tape, HG5.out.1.output, HG5.out.1.size, fun k hk => HG5.out.1.block k (by have := HN5.out; omega)⟩)
  clear HKW HB HC1 HCU HK3 HB3 HK4 HB4 HWA HG5 Hi
  generalize w4.heap.size = n5 at *
  go_wp2_with fail
  go_loopg [4] 46 (fun g v4 w' => ∃ i : Nat, v4 = .int .i64 (i : Int) ∧ Hid (i ≤ 44 ∧ 44 < g + i) ∧ Hid (AB .u8 tW n5 V w') ∧ Hid (AB .u8 27 n0 key w') ∧ Hid (Below n0 w w'))
  case atStart => exact ⟨0, rfl, Lib.hid ⟨by omega, by omega⟩, HV5, HK5, HB5⟩
  case round =>
    obtain ⟨i, rfl, HJ, HVi, HKi, HBi⟩ := hrel
    clear HV5 HK5 HB5
    cases gk with
    | zero => have := HJ.out; omega
    | succ g1 =>
      by_cases hi : i < 44
      · have HJ' := Lib.hid (show i < 44 ∧ 44 < (g1 + 1) + i from ⟨hi, HJ.out.2⟩)
        have z0 : (i : Int) < 44 := by omega
        have z1 : (0 : Int) ≤ (i : Int) := by omega
        clear hi HJ
        go_wp2_with fail
        go_loopg [5] 6 (fun g v5 w' => ∃ k : Nat, v5 = .int .i64 (k : Int) ∧ Hid (k ≤ 4 ∧ 4 < g + k) ∧ Hid (AB .u8 tW n5 V w') ∧ Hid (AB .u8 27 n0 key w') ∧ Hid (Below n0 w w'))
        case atStart => exact ⟨0, rfl, Lib.hid ⟨by omega, by omega⟩, HVi, HKi, HBi⟩
        case round =>
          obtain ⟨k, rfl, HI, HVk, HKk, HBk⟩ := hrel
          clear HVi HKi HBi
          cases gk with
          | zero => have := HI.out; omega
          | succ g2 =>
            by_cases hk : k < 4
            · have HI' := Lib.hid (show k < 4 ∧ 4 < (g2 + 1) + k from ⟨hk, HI.out.2⟩)
              have z2 : (k : Int) < 4 := by omega
              have z3 : (0 : Int) ≤ (k : Int) := by omega
              clear HI
              by_cases hi : i < 4
              · have y0 : (i : Int) < 4 := by omega
                have y1 : decide ((4 : Int) ≤ (i : Int)) = false := decide_eq_false (by omega)
                have z4 : 4 * (i : Int) + (k : Int) < 16 := by omega
                have z5 : (0 : Int) ≤ 4 * (i : Int) + (k : Int) := by omega
                have z6 : (4 * (i : Int) + (k : Int)).toNat = 4 * i + k := by omega
                obtain ⟨va, hva⟩ : ∃ y, key.getD (4 * i + k) 0 = y := ⟨_, rfl⟩
                have q1 := gw HVk.out.lt (show wr.cell? ⟨n5, i * 4 + k, none⟩ = some (.int .u8 (va : Nat)) from by rw [← hva, ← HV1.out _ (by omega), show i * 4 + k = 4 * i + k from by omega]; exact HVk.out.cell (by rw [HWl.out]; omega))
                have q2 := gw HKk.out.lt (show wr.cell? ⟨n0, 4 * i + k, none⟩ = some (.int .u8 (va : Nat)) from by rw [← hva]; exact HKk.out.cell (by rw [HK.out]; omega))
                clear hva hk hi
                go_wp2_with fail
                refine Q.wp_region_segs none [([0, 1, 2, 3, 4, 5, 6, 7, 8, 9, 10, 11, 12, 13, 14, 15, 16, 17, 18, 19, 20, 21, 22, 23, 24, 25, 26, 27, 28, 29, 30, 31, 32, 33, 34, 35, 36, 37, 38, 39, 40, 41, 42, 43, 44, 45], none)] (by kernel_rfl) (by kernel_rfl) (by kernel_rfl) (by kernel_rfl) ?_
                dsimp only [Q.wpSegs, Q.picks, Q.pick]
                repeat (go_big_quiet_step (fail))
                refine wpQuiet_nil ?_
                refine NoPanic.normal ?_
                clear q1 q2 z4 z5 z6
                go_wp2_with fail
                refine Q.wp_region_segs none [([0, 1, 2, 3, 4, 5, 6, 7, 8, 9, 10, 11, 12, 13, 14, 15, 16, 17, 18, 19, 20, 21, 22, 23, 24, 25, 26, 27, 28, 29, 30], some 31), ([32, 33, 34], none)] (by kernel_rfl) (by kernel_rfl) (by kernel_rfl) (by kernel_rfl) ?_
                dsimp only [Q.wpSegs, Q.picks, Q.pick]
                repeat (go_big_quiet_step (fail))
                refine wpQuiet_nil ?_
                go_wp2_with fail
                refine Q.ev_keep (Below.refl _ _) (Nat.le_refl _) ?_
                repeat (go_big_quiet_step (fail))
                refine wpQuiet_nil ?_
                refine NoPanic.normal ?_
                go_wp2_with fail
                go_roundg g2
                case measure => have := HI'.out; omega
                case rel => exact ⟨k + 1, by go_num, Lib.hid (by have := HI'.out; omega), Lib.hid HVk.out.drew.drew, Lib.hid HKk.out.drew.drew, Lib.hid HBk.out.drew.drew⟩
              · obtain ⟨n, rfl⟩ : ∃ n, i = n + 4 := ⟨i - 4, by omega⟩
                have Hn4 := Lib.hid (show n < 40 from by have := HJ'.out; omega)
                clear hi z0 z1
                have z0 : (n : Int) < 40 := by have := Hn4.out; omega
                have z1 : (0 : Int) ≤ (n : Int) := by omega
                have y0 : decide ((n : Int) + 4 < 4) = false := decide_eq_false (by omega)
                have y0' : ¬ (n : Int) < 0 := by omega
                have y1 : decide ((4 : Int) ≤ (n : Int) + 4) = true := decide_eq_true (by omega)
                have z4 : (n : Int) + 4 < 44 := by omega
                have z5 : (0 : Int) ≤ (n : Int) + 4 := by omega
                have z6 : ((n : Int) + 4).toNat = n + 4 := by omega
                have z7 : ((n : Int) + 3).toNat = n + 3 := by omega
                have hk0 := hk
                by_cases hm : n % 4 = 0
                · have m1 : (n : Int) % 4 = 0 := by omega
                  have m2 : ((n : Int) + 4) % 4 = 0 := by omega
                  have m3 : ((n : Int) + 4).tmod 4 = 0 := by rw [Int.tmod_eq_emod_of_nonneg (by omega)]; omega
                  by_cases h0 : k = 0
                  · have k0 : decide ((0 : Int) < (k : Int)) = false := decide_eq_false (by omega)
                    have k0n : decide (0 < k) = false := decide_eq_false (by omega)
                    clear hk hk0 hm h0
                    go_wp2_with fail
                    refine Q.wp_region_segs none [([0, 1, 2, 3, 4, 5, 6, 7, 8, 9, 10, 11, 12, 13, 14, 15, 16, 17, 18, 19, 20, 21, 22, 23, 24, 25, 26, 27, 28, 29, 30, 31, 32, 33, 34, 35, 36, 37, 38, 39, 40, 41, 42, 43, 44, 45], none)] (by kernel_rfl) (by kernel_rfl) (by kernel_rfl) (by kernel_rfl) ?_
                    dsimp only [Q.wpSegs, Q.picks, Q.pick]
                    repeat (go_big_quiet_step (fail))
                    refine wpQuiet_nil ?_
                    refine NoPanic.normal ?_
                    go_wp2_with fail
                    refine Q.wp_region_segs none [([0, 1, 2, 3, 4, 5, 6, 7, 8, 9, 10, 11, 12, 13, 14, 15, 16, 17, 18, 19, 20, 21, 22, 23, 24, 25, 26, 27, 28, 29, 30], some 31), ([32, 33, 34], none)] (by kernel_rfl) (by kernel_rfl) (by kernel_rfl) (by kernel_rfl) ?_
                    dsimp only [Q.wpSegs, Q.picks, Q.pick]
                    repeat (go_big_quiet_step (fail))
                    refine wpQuiet_nil ?_
                    go_wp2_with fail
                    refine Q.ev_keep (Below.refl _ _) (Nat.le_refl _) ?_
                    repeat (go_big_quiet_step (fail))
                    refine wpQuiet_nil ?_
                    refine NoPanic.normal ?_
                    go_wp2_with fail
                    go_roundg g2
                    case measure => have := HI'.out; omega
                    case rel => exact ⟨k + 1, by go_num, Lib.hid (by have := HI'.out; omega), Lib.hid HVk.out.drew.drew, Lib.hid HKk.out.drew.drew, Lib.hid HBk.out.drew.drew⟩
                  · have k0 : decide ((0 : Int) < (k : Int)) = true := decide_eq_true (by omega)
                    have k0n : decide (0 < k) = true := decide_eq_true (by omega)
                    obtain ⟨m, hmm⟩ : ∃ m, (k + 1) % 4 = m := ⟨_, rfl⟩
                    have r0 : m < 4 := by omega
                    have r1 : ((k : Int) + 1) % 4 = (m : Int) := by omega
                    have r2 : ((k : Int) + 1).tmod 4 = (m : Int) := by rw [Int.tmod_eq_emod_of_nonneg (by omega)]; omega
                    have r3 : (m : Int) < 4 := by omega
                    have r4 : (0 : Int) ≤ (m : Int) := by omega
                    have hv := HV3.out n k Hn4.out hk (by omega) hm
                    rw [hmm] at hv
                    obtain ⟨vb, hvb⟩ : ∃ y, V.getD (4 * n + k) 0 = y := ⟨_, rfl⟩
                    obtain ⟨vd, hvd⟩ : ∃ y, V.getD (4 * (n + 3) + m) 0 = y := ⟨_, rfl⟩
                    have b8 : vb < 256 := by rw [← hvb]; exact getD_lt0 (by decide) _ HV8.out
                    have d8 : vd < 256 := by rw [← hvd]; exact getD_lt0 (by decide) _ HV8.out
                    rw [hvb, hvd] at hv
                    have HBx := Lib.hid (fun W => box_any vd W d8)
                    have vy8 := bxv_lt vd
                    rw [show boxT.getD vd 0 = bxv vd from rfl] at HBx
                    generalize bxv vd = vy at *
                    have x1 := xor_u8 vb vy b8 vy8
                    have Hv := Lib.hid hv
                    have Hvb := Lib.hid hvb
                    have Hvd := Lib.hid hvd
                    clear hmm r0 hv hvb hvd b8 d8 vy8 hk hk0 hm h0
                    go_wp2_with fail
                    refine Q.wp_region_segs none [([0, 1, 2, 3, 4, 5, 6, 7, 8, 9, 10, 11, 12, 13, 14, 15, 16, 17, 18, 19, 20, 21, 22, 23, 24, 25, 26, 27, 28, 29, 30, 31, 32, 33, 34, 35, 36, 37, 38, 39, 40, 41, 42, 43, 44, 45], none)] (by kernel_rfl) (by kernel_rfl) (by kernel_rfl) (by kernel_rfl) ?_
                    dsimp only [Q.wpSegs, Q.picks, Q.pick]
                    repeat (go_big_quiet_step (fail))
                    refine wpQuiet_nil ?_
                    refine NoPanic.normal ?_
                    go_wp2_with fail
                    refine wp_at fun Wd hWd => ?_
                    have HVd := Lib.hid (show AB .u8 tW n5 V Wd from by rw [hWd]; exact HVk.out.drew)
                    have HKd := Lib.hid (show AB .u8 27 n0 key Wd from by rw [hWd]; exact HKk.out.drew)
                    have HBd := Lib.hid (show Below n0 w Wd from by rw [hWd]; exact HBk.out.drew)
                    clear hWd HVk HKk HBk
                    have q1 := gw HVd.out.lt (show Wd.cell? ⟨n5, (n + 4) * 4 + k, none⟩ = some (.int .u8 ((vb ^^^ vy : Nat) : Int)) from by rw [← Hv.out, show (n + 4) * 4 + k = 4 * (n + 4) + k from by omega]; exact HVd.out.cell (by rw [HWl.out]; have := Hn4.out; omega))
                    have q2 := gw HVd.out.lt (show Wd.cell? ⟨n5, n * 4 + k, none⟩ = some (.int .u8 (vb : Nat)) from by rw [← Hvb.out, show n * 4 + k = 4 * n + k from by omega]; exact HVd.out.cell (by rw [HWl.out]; have := Hn4.out; omega))
                    have q3 := gw HVd.out.lt (show Wd.cell? ⟨n5, (n + 3) * 4 + m, none⟩ = some (.int .u8 (vd : Nat)) from by rw [← Hvd.out, show (n + 3) * 4 + m = 4 * (n + 3) + m from by omega]; exact HVd.out.cell (by rw [HWl.out]; have := Hn4.out; omega))
                    refine Q.wp_region_segs none [([0, 1, 2, 3, 4, 5, 6, 7, 8, 9, 10, 11, 12, 13, 14, 15, 16, 17, 18, 19, 20, 21, 22, 23, 24, 25, 26, 27, 28, 29, 30], some 31), ([32, 33, 34], none)] (by kernel_rfl) (by kernel_rfl) (by kernel_rfl) (by kernel_rfl) ?_
                    dsimp only [Q.wpSegs, Q.picks, Q.pick]
                    repeat (go_big_quiet_step (fail))
                    refine wpQuiet_nil ?_
                    clear q1 q2 q3
                    go_wp2_with (go_at_call 14; refine (HBx.out _).mono ?_; rintro e w7 ⟨rfl, hb7⟩; (have HB7 := Lib.hid hb7); clear hb7)
                    refine Q.ev_keep HB7.out (Nat.le_refl _) ?_
                    repeat (go_big_quiet_step (fail))
                    refine wpQuiet_nil ?_
                    refine NoPanic.normal ?_
                    go_wp2_with fail
                    go_roundg g2
                    case measure => have := HI'.out; omega
                    case rel => exact ⟨k + 1, by go_num, Lib.hid (by have := HI'.out; omega), Lib.hid (HVd.out.drew.below HVd.out.drew.lt HB7.out), Lib.hid (HKd.out.drew.below HKd.out.drew.lt HB7.out), Lib.hid (HBd.out.drew.trans ⟨HB7.out.os, HB7.out.tape, HB7.out.output, HB7.out.size, fun j hj => HB7.out.block j (by have := HVd.out.drew.lt; have := HN5.out; omega)⟩)⟩
                · obtain ⟨m, hmm⟩ : ∃ m, n % 4 = m := ⟨_, rfl⟩
                  have m0 : ((m : Int) != 0) = true := bne_iff_ne.2 (by omega)
                  have m0e : ((m : Int) == 0) = false := beq_eq_false_iff_ne.2 (by omega)
                  have m1 : (n : Int) % 4 = (m : Int) := by omega
                  have m2 : ((n : Int) + 4) % 4 = (m : Int) := by omega
                  have m3 : ((n : Int) + 4).tmod 4 = (m : Int) := by rw [Int.tmod_eq_emod_of_nonneg (by omega)]; omega
                  have hv := HV2.out n k Hn4.out hk hm
                  obtain ⟨vb, hvb⟩ : ∃ y, V.getD (4 * n + k) 0 = y := ⟨_, rfl⟩
                  obtain ⟨vd, hvd⟩ : ∃ y, V.getD (4 * (n + 3) + k) 0 = y := ⟨_, rfl⟩
                  have x1 := xor_u8 vb vd (by rw [← hvb]; exact getD_lt0 (by decide) _ HV8.out) (by rw [← hvd]; exact getD_lt0 (by decide) _ HV8.out)
                  rw [hvb, hvd] at hv
                  have q1 := gw HVk.out.lt (show wr.cell? ⟨n5, (n + 4) * 4 + k, none⟩ = some (.int .u8 ((vb ^^^ vd : Nat) : Int)) from by rw [← hv, show (n + 4) * 4 + k = 4 * (n + 4) + k from by omega]; exact HVk.out.cell (by rw [HWl.out]; have := Hn4.out; omega))
                  have q2 := gw HVk.out.lt (show wr.cell? ⟨n5, n * 4 + k, none⟩ = some (.int .u8 (vb : Nat)) from by rw [← hvb, show n * 4 + k = 4 * n + k from by omega]; exact HVk.out.cell (by rw [HWl.out]; have := Hn4.out; omega))
                  have q3 := gw HVk.out.lt (show wr.cell? ⟨n5, (n + 3) * 4 + k, none⟩ = some (.int .u8 (vd : Nat)) from by rw [← hvd, show (n + 3) * 4 + k = 4 * (n + 3) + k from by omega]; exact HVk.out.cell (by rw [HWl.out]; have := Hn4.out; omega))
                  clear hmm hv hvb hvd hk hk0 hm
                  go_wp2_with fail
                  refine Q.wp_region_segs none [([0, 1, 2, 3, 4, 5, 6, 7, 8, 9, 10, 11, 12, 13, 14, 15, 16, 17, 18, 19, 20, 21, 22, 23, 24, 25, 26, 27, 28, 29, 30, 31, 32, 33, 34, 35, 36, 37, 38, 39, 40, 41, 42, 43, 44, 45], none)] (by kernel_rfl) (by kernel_rfl) (by kernel_rfl) (by kernel_rfl) ?_
                  dsimp only [Q.wpSegs, Q.picks, Q.pick]
                  repeat (go_big_quiet_step (fail))
                  refine wpQuiet_nil ?_
                  refine NoPanic.normal ?_
                  clear q1 q2 q3
                  go_wp2_with fail
                  refine Q.wp_region_segs none [([0, 1, 2, 3, 4, 5, 6, 7, 8, 9, 10, 11, 12, 13, 14, 15, 16, 17, 18, 19, 20, 21, 22, 23, 24, 25, 26, 27, 28, 29, 30], some 31), ([32, 33, 34], none)] (by kernel_rfl) (by kernel_rfl) (by kernel_rfl) (by kernel_rfl) ?_
                  dsimp only [Q.wpSegs, Q.picks, Q.pick]
                  repeat (go_big_quiet_step (fail))
                  refine wpQuiet_nil ?_
                  go_wp2_with fail
                  refine Q.ev_keep (Below.refl _ _) (Nat.le_refl _) ?_
                  repeat (go_big_quiet_step (fail))
                  refine wpQuiet_nil ?_
                  refine NoPanic.normal ?_
                  go_wp2_with fail
                  go_roundg g2
                  case measure => have := HI'.out; omega
                  case rel => exact ⟨k + 1, by go_num, Lib.hid (by have := HI'.out; omega), Lib.hid HVk.out.drew.drew, Lib.hid HKk.out.drew.drew, Lib.hid HBk.out.drew.drew⟩
            · obtain rfl : k = 4 := by have := HI.out; omega
              clear hk HI
              go_wp2_with fail
              go_roundg g1
              case measure => have := HJ'.out; omega
              case rel => exact ⟨i + 1, by go_num, Lib.hid (by have := HJ'.out; omega), HVk, HKk, HBk⟩
      · obtain rfl : i = 44 := by have := HJ.out; omega
        clear hi HJ
        go_wp2_with (go_at_call 13; refine (alive_any _).mono ?_; rintro e w9 ⟨rfl, hb9⟩; (have HB9 := Lib.hid hb9); clear hb9)
        go_ret
        exact ⟨rfl, by rw [Hn.out]; exact HBi.out.trans ⟨HB9.out.os, HB9.out.tape, HB9.out.output, HB9.out.size, fun k hk => HB9.out.block k (by have := HVi.out.lt; have := HN5.out; omega)⟩⟩
end Go.Proofs.Ytblnclooobggnaa.A
