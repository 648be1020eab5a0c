/-
  aes: alive.
-/
import Derived.Test.YtblnclooobggnaaAi
import Derived.Test.YtblnclooobggnaaAj
namespace Go.Proofs.Ytblnclooobggnaa.A
open Go.RowKit Go.Proofs.Ytblnclooobggnaa.L Go.Proofs.Ytblnclooobggnaa.N Go.Proofs.YtblnclooobggnaaW.PrintWords

set_option maxRecDepth 100000 in
set_option maxHeartbeats 6400000 in
theorem alive_any (w : World) : Calls Try.prog 13 #[] w fun e w' => e = .returned (.bool true) ∧ Below w.heap.size w w' := by
  go_enter Try.func13, Try.ntmps13
  go_upto_region 3 with (fail)
  refine wp_at fun W hW => ?_
  obtain ⟨h1, h2, hb, hsz⟩ := two_ab (k := .u8) (k' := .u8) z16 z16 hW
  have H1 := Lib.hid (show AB .u8 27 w.heap.size (fl KA 0) W from by rw [fl_zero, KA_len]; exact h1)
  have H2 := Lib.hid (show AB .u8 tB (w.heap.size + 1) (fl BA 0) W from by rw [fl_zero, BA_len]; exact h2)
  have HB := Lib.hid hb
  have HZ := Lib.hid hsz
  clear hW h1 h2 hb hsz
  generalize hn : w.heap.size = n0 at *
  have Hn := Lib.hid hn
  clear hn
  go_wp2_with fail
  go_loopg [3] 18 (fun g v3 w' => ∃ i : Nat, v3 = .int .i64 (i : Int) ∧ Hid (i ≤ 16 ∧ 16 < g + i) ∧ Hid (AB .u8 27 n0 (fl KA i) w') ∧ Hid (AB .u8 tB (n0 + 1) (fl BA i) w') ∧ Hid (Below n0 w w'))
  case atStart => exact ⟨0, rfl, Lib.hid ⟨by omega, by omega⟩, H1, H2, HB⟩
  case round =>
    obtain ⟨i, rfl, HJ, HK, HX, HBw⟩ := hrel
    clear H1 H2 HB
    cases gk with
    | zero => have := HJ.out; omega
    | succ k =>
      by_cases hi : i < 16
      · have HJ' := Lib.hid (show i < 16 ∧ 16 < (k + 1) + i from ⟨hi, HJ.out.2⟩)
        have z0 : (i : Int) < 16 := by omega
        have z1 : (0 : Int) ≤ (i : Int) := by omega
        have w1 : (i : Int) % 256 = (i : Int) := by omega
        have w2 : 17 * (i : Int) % 256 = 17 * (i : Int) := by omega
        have w3 : IntKind.u8.wrap (i : Int) = (i : Int) := wraps_u8 _ (by omega) (by omega)
        have w4 : IntKind.u8.wrap (17 * (i : Int)) = 17 * (i : Int) := wraps_u8 _ (by omega) (by omega)
        have lk : (fl KA i).length = 16 := by rw [fl_length KA (by rw [KA_len]; omega), KA_len]
        have lx : (fl BA i).length = 16 := by rw [fl_length BA (by rw [BA_len]; omega), BA_len]
        have c1 : wr.cell? ⟨n0, i, none⟩ = _ := HK.out.cell (i := i) (by rw [lk]; exact hi)
        have c2 : wr.cell? ⟨n0 + 1, i, none⟩ = _ := HX.out.cell (i := i) (by rw [lx]; exact hi)
        have f1 := HK.out.fz i
        have f2 := HX.out.fz i
        clear hi HJ lk lx
        go_wp2_with fail
        clear w1 w2 w3 w4 c1 c2 f1 f2
        go_roundg k
        case measure => have := HJ'.out; omega
        case rel =>
          have hk := HK.out.set i i
          have hx := (AB.other (c := n0) (i := i) (v := .int .u8 (i : Int)) HX.out (by omega)).set i (17 * i)
          have ek := fl_step (l := KA) (i := i) (by rw [KA_len]; exact HJ'.out.1)
          rw [KA_get HJ'.out.1] at ek
          have ex := fl_step (l := BA) (i := i) (by rw [BA_len]; exact HJ'.out.1)
          rw [BA_get HJ'.out.1] at ex
          rw [ek] at hk
          rw [ex] at hx
          exact ⟨i + 1, by go_num, Lib.hid (by have := HJ'.out; omega), Lib.hid (AB.other hk (by omega)), Lib.hid (by rw [show (17 * (i : Int)) = ((17 * i : Nat) : Int) from by omega]; exact hx), Lib.hid ((HBw.out.setCell (p := ⟨n0, i, none⟩) (by show n0 ≤ n0; omega) _).setCell (p := ⟨n0 + 1, i, none⟩) (by show n0 ≤ n0 + 1; omega) _)⟩
      · obtain rfl : i = 16 := by have := HJ.out; omega
        clear hi HJ
        have HK' := Lib.hid (show AB .u8 27 n0 KA wr from by have := HK.out; have e := fl_all KA; rw [KA_len] at e; rwa [e] at this)
        have HX' := Lib.hid (show AB .u8 tB (n0 + 1) BA wr from by have := HX.out; have e := fl_all BA; rw [BA_len] at e; rwa [e] at this)
        have HN := Lib.hid (fun W => new_any KA W KA_len)
        clear HK HX
        go_wp2_with (first
          | (refine load_ab .u8 n0 KA rfl rfl rfl HK'.out Try.underlying27 (by rw [KA_len]; exact info_key) ?_)
          | (go_at_call 16; refine (HN.out _).mono ?_; rintro e w3 ⟨c, rfl, hc1, hc2, hc3⟩; (have HC1 := Lib.hid hc1); (have HCU := Lib.hid hc2); (have HX3 := Lib.hid (HX'.out.below HX'.out.lt hc3)); (have HB3 := Lib.hid (HBw.out.trans ⟨hc3.os, hc3.tape, hc3.output, hc3.size, fun k hk => hc3.block k (by have := HX'.out.lt; omega)⟩)); (have HCn := Lib.hid (show n0 ≤ c from by have := HX'.out.lt; omega)); clear hc1 hc2 hc3)
          | (refine load_ab .u8 (n0 + 1) BA rfl rfl rfl HX3.out Try.underlying26 (by rw [BA_len]; exact info_B) ?_))
        refine (turn_any c 0 KA BA w3 HCU.out ⟨by omega, by omega⟩ KA_len KA_lt BA_len BA_lt).mono ?_
        rintro e w4 ⟨rfl, hc, hg⟩
        have HT := Lib.hid (turnP_len KA BA)
        obtain ⟨t0, t1, t2, t3⟩ := take4 fixed_take
        generalize turnP KA BA = T at *
        have HC4 := Lib.hid hc
        have HB4 := Lib.hid (below_grown HB3.out (by have := HCU.out.lt; have := HCn.out; omega) hg HCn.out)
        clear hc hg HCU HX3 HB3 HC1 HK' HX' HBw HN
        have H0 := Lib.hid t0
        have H1 := Lib.hid t1
        have H2 := Lib.hid t2
        have H3 := Lib.hid t3
        clear t0 t1 t2 t3
        go_upto_region 9 with (first
          | (refine store_ab .u8 w4.heap.size z16 T rfl rfl rfl rfl rfl (AB.mk w4 .u8 _ _) (by rw [HT.out]; exact info_B) (by rw [HT.out]; exact List.length_replicate) ?_; intro w5 h5 hg5; (have H5 := Lib.hid h5); (have HB5 := Lib.hid (below_new hg5)); clear h5 hg5))
        have HC5 := Lib.hid (HC4.out.below HB5.out.1)
        have HB6 := Lib.hid (show Below n0 w w5 from HB4.out.trans ⟨HB5.out.1.os, HB5.out.1.tape, HB5.out.1.output, HB5.out.1.size, fun k hk => HB5.out.1.block k (by have := HC4.out.lt; have := HCn.out; omega)⟩)
        have HS5 := Lib.hid (show n0 ≤ w5.heap.size from by have := HC5.out.lt; have := HCn.out; omega)
        generalize w4.heap.size = n5 at *
        have c0 : w5.cell? ⟨n5, 0, none⟩ = some (.int .u8 105) := by rw [H5.out.cell (i := 0) (by rw [HT.out]; decide), H0.out]; rfl
        have c1 : w5.cell? ⟨n5, 1, none⟩ = some (.int .u8 196) := by rw [H5.out.cell (i := 1) (by rw [HT.out]; decide), H1.out]; rfl
        have c2 : w5.cell? ⟨n5, 2, none⟩ = some (.int .u8 224) := by rw [H5.out.cell (i := 2) (by rw [HT.out]; decide), H2.out]; rfl
        have c3 : w5.cell? ⟨n5, 3, none⟩ = some (.int .u8 216) := by rw [H5.out.cell (i := 3) (by rw [HT.out]; decide), H3.out]; rfl
        clear HB5 HC4 HB4
        go_wp2_with fail
        refine (turns_at c 1 w5 HC5.out.ct).mono ?_
        rintro e w6 ⟨rfl, hw6⟩
        rw [hw6]
        clear hw6 w6
        go_wp2_with fail
        refine (box_any 0 _ (by decide)).mono ?_
        rintro e w7 ⟨rfl, hb7⟩
        rw [box0]
        have HB7 := Lib.hid hb7
        clear hb7
        go_wp2_with fail
        refine (box_any 83 _ (by decide)).mono ?_
        rintro e w8 ⟨rfl, hb8⟩
        rw [box83]
        have HB8 := Lib.hid hb8
        clear hb8
        go_wp2_with fail
        go_ret
        refine ⟨rfl, ?_⟩
        rw [Hn.out]
        have e7 : Below n0 w w7 := HB6.out.trans ⟨HB7.out.os, HB7.out.tape, HB7.out.output, HB7.out.size, fun k hk => HB7.out.block k (by have := HS5.out; omega)⟩
        exact e7.trans ⟨HB8.out.os, HB8.out.tape, HB8.out.output, HB8.out.size, fun k hk => HB8.out.block k (by have := HS5.out; have := HB7.out.size; omega)⟩
end Go.Proofs.Ytblnclooobggnaa.A
