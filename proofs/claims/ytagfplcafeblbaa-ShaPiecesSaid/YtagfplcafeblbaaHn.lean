/-
  sha: the law of pieces.
-/
import Derived.Test.YtagfplcafeblbaaHm
namespace Go.Proofs.Ytagfplcafeblbaa.H
open Go.RowKit Go.Proofs.Ytagfplcafeblbaa.L Go.Proofs.Ytagfplcafeblbaa.N Go.Proofs.YtagfplcafeblbaaW.PrintWords

/-- between two pieces -/
structure PC (b : Nat) (l done r : List Nat) (L : List (List Nat)) (A : Option Addr) (c : Nat) (v7 : Value) (w0 w : World) : Prop where
  sh : SH b done w
  cut : l = done ++ r
  fl : L.flatten = done
  cap : r.length ≤ c
  row : (Kd.int .u8).C w0 A r.length (nat r)
  parts : ∃ ps, kSl.R 22 w w0.heap.size (fun _ => True) v7 ps ∧ PS w0 ps L
  bel : Below w0.heap.size w0 w
  blt : w0.heap.size ≤ b
theorem PC.lt8 {b : Nat} {l done r : List Nat} {L : List (List Nat)} {A : Option Addr} {c : Nat} {v7 : Value} {w0 w : World} (h : PC b l done r L A c v7 w0 w) (hl : ∀ x ∈ l, x < 256) : ∀ x ∈ r, x < 256 := fun x hx => hl x (by rw [h.cut]; exact List.mem_append_right _ hx)
set_option maxRecDepth 100000 in
set_option maxHeartbeats 1600000 in
theorem pieces_nat (l cuts : List Nat) (A A2 : Option Addr) (c c2 : Nat) (w : World) (hC : (Kd.int .u8).C w A l.length (nat l)) (hc : l.length ≤ c) (hl : ∀ x ∈ l, x < 256) (hC2 : (Kd.int .u8).C w A2 cuts.length (nat cuts)) (hl2 : ∀ x ∈ cuts, x < 256) :
    Calls Try.prog 4 #[.slice A l.length c, .slice A2 cuts.length c2] w fun e w' => e = .returned (.bool true) ∧ Below w.heap.size w w' := by
  have hm1 := (B_open hC).1
  have hm2 := (B_open hC2).1
  by_cases h1 : 4000 < l.length ∨ 60 < cuts.length
  · have HAl := Lib.hid (alive_any w)
    by_cases h2 : 4000 < l.length
    · have z1 : decide ((4000 : Int) < (l.length : Int)) = true := decide_eq_true (by omega)
      clear hC hl hC2 hl2 h1 h2
      go_enter Try.func4, Try.ntmps4
      go_wp2_with fail
      refine HAl.out.mono ?_
      rintro e w1 ⟨rfl, hb⟩
      go_wp2_with fail
      go_ret
      exact ⟨rfl, hb⟩
    · have z1 : decide ((4000 : Int) < (l.length : Int)) = false := decide_eq_false (by omega)
      have z2 : decide ((60 : Int) < (cuts.length : Int)) = true := decide_eq_true (by omega)
      clear hC hl hC2 hl2 h1 h2
      go_enter Try.func4, Try.ntmps4
      go_wp2_with fail
      refine HAl.out.mono ?_
      rintro e w1 ⟨rfl, hb⟩
      go_wp2_with fail
      go_ret
      exact ⟨rfl, hb⟩
  have z1 : decide ((4000 : Int) < (l.length : Int)) = false := decide_eq_false (by omega)
  have z2 : decide ((60 : Int) < (cuts.length : Int)) = false := decide_eq_false (by omega)
  have HC := Lib.hid hC
  have HCc := Lib.hid hc
  have HL := Lib.hid hl
  have HC2 := Lib.hid hC2
  have HL2 := Lib.hid hl2
  have HM := Lib.hid (show l.length ≤ 4000 ∧ cuts.length ≤ 60 from ⟨by omega, by omega⟩)
  clear hC hc hl hC2 hl2 h1
  go_enter Try.func4, Try.ntmps4
  go_wp2_with fail
  refine (new_any w).mono ?_
  rintro e W1 ⟨b, rfl, hbW, hsh, hb1⟩
  have M0 := Lib.hid (show PC b l [] l [] A c (.slice none 0 0) w W1 from ⟨hsh, rfl, rfl, HCc.out, HC.out, ⟨[], Kd.R_nil _ _ _ _ _, PS.nil _⟩, hb1, hbW⟩)
  have HLt := Lib.hid hbW
  clear hbW hsh hb1 z1 z2
  go_wp2_with fail
  go_loopg [6, 7, 8] (cuts.length + 1) (fun g v6 v7 v8 w' => ∃ (i : Nat) (done r : List Nat) (L : List (List Nat)) (A1 : Option Addr) (c1 : Nat), v8 = .int .i64 i ∧ v6 = .slice A1 r.length c1 ∧ Hid (i ≤ cuts.length ∧ cuts.length < g + i) ∧ Hid (PC b l done r L A1 c1 v7 w w') ∧ Hid (L.length ≤ i))
  case atStart => exact ⟨0, [], l, [], A, c, rfl, rfl, Lib.hid ⟨by omega, by omega⟩, M0, Lib.hid (Nat.le_refl _)⟩
  case round =>
    obtain ⟨i, done, r, L, A1, c1, rfl, rfl, HJ, HP, HLl⟩ := hrel
    clear M0
    cases gk with
    | zero => have := HJ.out; omega
    | succ k =>
      have hrl : r.length ≤ l.length := by rw [HP.out.cut, List.length_append]; omega
      by_cases hgo : i < cuts.length ∧ 0 < r.length
      · obtain ⟨hlt, h0⟩ := hgo
        have t1 : decide ((i : Int) < (cuts.length : Int)) = true := decide_eq_true (by omega)
        have t2 : decide ((0 : Int) < (r.length : Int)) = true := decide_eq_true (by omega)
        have t2n : decide (0 < r.length) = true := decide_eq_true h0
        have t3 : (0 : Int) ≤ (i : Int) := by omega
        have t4 : (i : Int) < (cuts.length : Int) := by omega
        have t4n : decide (i < cuts.length) = true := decide_eq_true hlt
        obtain ⟨b2, o2, rfl, hb2, hc2⟩ := B_at (Kd.C_below HC2.out (HP.out.bel)) (by omega)
        have c0 := hc2 i hlt
        have hn := getD_lt hlt HL2.out
        obtain ⟨n0, hn0⟩ : ∃ n, cuts.getD i 0 = n := ⟨_, rfl⟩
        rw [hn0] at c0 hn
        have HJ' := Lib.hid (show i < cuts.length ∧ cuts.length < (k + 1) + i from ⟨hlt, HJ.out.2⟩)
        have HRl := Lib.hid (show r.length ≤ 4000 ∧ 0 < r.length from ⟨by have := HM.out; omega, h0⟩)
        clear hc2 hb2 hn0 HJ hlt h0 hrl
        by_cases hbig : r.length < n0
        · have t5 : decide ((r.length : Int) < (n0 : Int)) = true := decide_eq_true (by omega)
          have t6 : (r.length : Int) < (n0 : Int) := by omega
          clear hbig
          obtain ⟨hct, hCt⟩ := cutT A1 r.length c1 (r.length : Int) (r.length) rfl (Nat.le_refl _) HP.out.cap
          obtain ⟨A3, c3, hcf, hc3, hCf⟩ := cutF A1 r.length c1 (r.length : Int) (r.length) rfl (Nat.le_refl _) HP.out.cap
          have htl : (r.take (r.length)).length = r.length := by rw [List.length_take]; exact Nat.min_eq_left (Nat.le_refl _)
          have hdl : (r.drop (r.length)).length = r.length - r.length := List.length_drop
          have h8 := HP.out.lt8 HL.out
          have hq := add_any b done (r.take (r.length)) A1 c1 wr HP.out.sh (by rw [htl]; exact Kd.C_below (hCt _ _ HP.out.row) HP.out.bel) (take_lt _ h8) (by have h1 := congrArg List.length HP.out.cut; rw [List.length_append] at h1; have := HM.out; rw [htl]; omega) (by rw [htl]; have := HRl.out; omega)
          rw [htl] at hq
          have HQ := Lib.hid hq
          have HCt := Lib.hid (show (Kd.int .u8).C w A1 (r.take (r.length)).length (nat (r.take (r.length))) from by rw [htl]; exact hCt _ _ HP.out.row)
          have HCf := Lib.hid (show (Kd.int .u8).C w A3 (r.drop (r.length)).length (nat (r.drop (r.length))) from by rw [hdl]; exact hCf _ _ HP.out.row)
          have Hc3 := Lib.hid hc3
          have HDl := Lib.hid hdl
          have HTl := Lib.hid htl
          have t7 : decide ((0 : Int) ≤ ((r.length : Nat) : Int)) = true := decide_eq_true (by omega)
          clear hq hc3 hCt hCf htl hdl h8
          go_wp2_with fail
          refine HQ.out.mono ?_
          rintro e w2 ⟨rfl, hs2, hg2⟩
          have HS2 := Lib.hid hs2
          have HB2 := Lib.hid (below_grown HP.out.bel HP.out.bel.size hg2 HP.out.blt)
          obtain ⟨ps, hps, hpl⟩ := HP.out.parts
          have HPs := Lib.hid (show kSl.R 22 w2 w.heap.size (fun _ => True) u7 ps from by
            obtain ⟨A9, c9, h9⟩ := HP.out.sh
            exact R_obj hps h9.g.blk (by intro q hq; simp [show kSl.E = [] from rfl] at hq; subst hq; decide) hg2)
          have HPl := Lib.hid hpl
          clear hs2 hg2 HQ hps hpl
          go_wp2_with fail
          refine (sum_any b (done ++ r.take (r.length)) w2 HS2.out (by have h1 := congrArg List.length HP.out.cut; rw [List.length_append] at h1; have := HM.out; rw [List.length_append, HTl.out]; omega)).mono ?_
          rintro e w3 ⟨rfl, hb3⟩
          have HS3 := Lib.hid (HS2.out.below hb3)
          have HB3 := Lib.hid (HB2.out.trans (hb3.mono HB2.out.size))
          have HPs3 := Lib.hid (Kd.R_below HPs.out hb3)
          clear hb3 HS2 HB2 HPs
          go_wp2_with (at_builtin; refine appk kSl (w0 := w) w.heap.size w3.heap.size (.tmp 54) (.tmp 58) 40 22 (.slice none 0 0) 24 rfl rfl Try.underlying40 info_sl rfl (by decide) (by decide) u7 ps (A1, r.length, c1) [.slice A1 (r.length) c1] rfl rfl rfl (Kd.R_lt HPs3.out) HPs3.out HB3.out HB3.out.size (by have := HPl.out.1; have := HLl.out; have := HJ'.out; have := HM.out; omega) ?_; intro v4 w4 hr4 hb4 hg4; (have HR4 := Lib.hid hr4); (have HB4 := Lib.hid hb4); (have HG4 := Lib.hid hg4); clear hr4 hb4 hg4)
          have hP := HP.out
          have hle : r.length ≤ r.length := Nat.le_refl _
          have HM4 := Lib.hid (show PC b l (done ++ r.take (r.length)) (r.drop (r.length)) (L ++ [r.take (r.length)]) A3 c3 v4 w w4 from
            ⟨HS3.out.over HPs3.out HG4.out, by rw [List.append_assoc, List.take_append_drop]; exact hP.cut, by rw [List.flatten_append, hP.fl]; simp, by rw [HDl.out]; exact Hc3.out, HCf.out,
             ⟨_, HR4.out, by
               have h := HPl.out.snoc HCt.out (take_lt _ (hP.lt8 HL.out)) (by rw [HTl.out]; exact Nat.le_trans hle hP.cap)
               rw [HTl.out] at h
               exact h⟩, HB4.out, hP.blt⟩)
          clear hP hle
          go_roundg k
          case measure => have := HJ'.out; omega
          case rel => exact ⟨i + 1, _, _, _, A3, c3, by go_num, by first | (rw [HDl.out]; done) | (rw [HDl.out]; simp), Lib.hid (by have := HJ'.out; omega), HM4, Lib.hid (by rw [List.length_append]; have := HLl.out; simp; omega)⟩
        · have t5 : decide ((r.length : Int) < (n0 : Int)) = false := decide_eq_false (by omega)
          have t6 : (n0 : Int) ≤ (r.length : Int) := by omega
          have hle0 : n0 ≤ r.length := by omega
          clear hbig
          obtain ⟨hct, hCt⟩ := cutT A1 r.length c1 (n0 : Int) (n0) rfl (hle0) HP.out.cap
          obtain ⟨A3, c3, hcf, hc3, hCf⟩ := cutF A1 r.length c1 (n0 : Int) (n0) rfl (hle0) HP.out.cap
          have htl : (r.take (n0)).length = n0 := by rw [List.length_take]; exact Nat.min_eq_left (hle0)
          have hdl : (r.drop (n0)).length = r.length - n0 := List.length_drop
          have h8 := HP.out.lt8 HL.out
          have hq := add_any b done (r.take (n0)) A1 c1 wr HP.out.sh (by rw [htl]; exact Kd.C_below (hCt _ _ HP.out.row) HP.out.bel) (take_lt _ h8) (by have h1 := congrArg List.length HP.out.cut; rw [List.length_append] at h1; have := HM.out; rw [htl]; omega) (by rw [htl]; have := HRl.out; omega)
          rw [htl] at hq
          have HQ := Lib.hid hq
          have HCt := Lib.hid (show (Kd.int .u8).C w A1 (r.take (n0)).length (nat (r.take (n0))) from by rw [htl]; exact hCt _ _ HP.out.row)
          have HCf := Lib.hid (show (Kd.int .u8).C w A3 (r.drop (n0)).length (nat (r.drop (n0))) from by rw [hdl]; exact hCf _ _ HP.out.row)
          have Hc3 := Lib.hid hc3
          have HDl := Lib.hid hdl
          have HTl := Lib.hid htl
          have t7 : decide ((0 : Int) ≤ ((n0 : Nat) : Int)) = true := decide_eq_true (by omega)
          clear hq hc3 hCt hCf htl hdl h8
          go_wp2_with fail
          refine HQ.out.mono ?_
          rintro e w2 ⟨rfl, hs2, hg2⟩
          have HS2 := Lib.hid hs2
          have HB2 := Lib.hid (below_grown HP.out.bel HP.out.bel.size hg2 HP.out.blt)
          obtain ⟨ps, hps, hpl⟩ := HP.out.parts
          have HPs := Lib.hid (show kSl.R 22 w2 w.heap.size (fun _ => True) u7 ps from by
            obtain ⟨A9, c9, h9⟩ := HP.out.sh
            exact R_obj hps h9.g.blk (by intro q hq; simp [show kSl.E = [] from rfl] at hq; subst hq; decide) hg2)
          have HPl := Lib.hid hpl
          clear hs2 hg2 HQ hps hpl
          go_wp2_with fail
          refine (sum_any b (done ++ r.take (n0)) w2 HS2.out (by have h1 := congrArg List.length HP.out.cut; rw [List.length_append] at h1; have := HM.out; rw [List.length_append, HTl.out]; omega)).mono ?_
          rintro e w3 ⟨rfl, hb3⟩
          have HS3 := Lib.hid (HS2.out.below hb3)
          have HB3 := Lib.hid (HB2.out.trans (hb3.mono HB2.out.size))
          have HPs3 := Lib.hid (Kd.R_below HPs.out hb3)
          clear hb3 HS2 HB2 HPs
          go_wp2_with (at_builtin; refine appk kSl (w0 := w) w.heap.size w3.heap.size (.tmp 54) (.tmp 58) 40 22 (.slice none 0 0) 24 rfl rfl Try.underlying40 info_sl rfl (by decide) (by decide) u7 ps (A1, n0, c1) [.slice A1 (n0) c1] rfl rfl rfl (Kd.R_lt HPs3.out) HPs3.out HB3.out HB3.out.size (by have := HPl.out.1; have := HLl.out; have := HJ'.out; have := HM.out; omega) ?_; intro v4 w4 hr4 hb4 hg4; (have HR4 := Lib.hid hr4); (have HB4 := Lib.hid hb4); (have HG4 := Lib.hid hg4); clear hr4 hb4 hg4)
          have hP := HP.out
          have hle : n0 ≤ r.length := hle0
          have HM4 := Lib.hid (show PC b l (done ++ r.take (n0)) (r.drop (n0)) (L ++ [r.take (n0)]) A3 c3 v4 w w4 from
            ⟨HS3.out.over HPs3.out HG4.out, by rw [List.append_assoc, List.take_append_drop]; exact hP.cut, by rw [List.flatten_append, hP.fl]; simp, by rw [HDl.out]; exact Hc3.out, HCf.out,
             ⟨_, HR4.out, by
               have h := HPl.out.snoc HCt.out (take_lt _ (hP.lt8 HL.out)) (by rw [HTl.out]; exact Nat.le_trans hle hP.cap)
               rw [HTl.out] at h
               exact h⟩, HB4.out, hP.blt⟩)
          clear hP hle
          go_roundg k
          case measure => have := HJ'.out; omega
          case rel => exact ⟨i + 1, _, _, _, A3, c3, by go_num, by first | (rw [HDl.out]; done) | (rw [HDl.out]; simp), Lib.hid (by have := HJ'.out; omega), HM4, Lib.hid (by rw [List.length_append]; have := HLl.out; simp; omega)⟩
      · by_cases hlt : i < cuts.length
        · have h0 : ¬ 0 < r.length := fun h => hgo ⟨hlt, h⟩
          have t1 : decide ((i : Int) < (cuts.length : Int)) = true := decide_eq_true (by omega)
          have t1n : decide (i < cuts.length) = true := decide_eq_true hlt
          have t1i : (i : Int) < (cuts.length : Int) := by omega
          have t2 : decide ((0 : Int) < (r.length : Int)) = false := decide_eq_false (by omega)
          have t2n : decide (0 < r.length) = false := decide_eq_false h0
          have hjl := HJ.out.1
          clear hgo hlt h0
          have hlen : l.length = done.length + r.length := by rw [HP.out.cut, List.length_append]
          have hq := add_any b done r A1 c1 wr HP.out.sh (Kd.C_below HP.out.row HP.out.bel) (HP.out.lt8 HL.out) (by have := HM.out; omega) (by have := HM.out; omega)
          rw [← HP.out.cut] at hq
          have HQ := Lib.hid hq
          clear hq hlen
          go_wp2_with fail
          refine HQ.out.mono ?_
          rintro e w2 ⟨rfl, hs2, hg2⟩
          have HS2 := Lib.hid hs2
          have HB2 := Lib.hid (below_grown HP.out.bel HP.out.bel.size hg2 HP.out.blt)
          obtain ⟨ps, hps, hpl⟩ := HP.out.parts
          have HPs := Lib.hid (show kSl.R 22 w2 w.heap.size (fun _ => True) u7 ps from by
            obtain ⟨A9, c9, h9⟩ := HP.out.sh
            exact R_obj hps h9.g.blk (by intro q hq; simp [show kSl.E = [] from rfl] at hq; subst hq; decide) hg2)
          have HPl := Lib.hid hpl
          clear hs2 hg2 HQ hps hpl
          obtain ⟨R, hR⟩ : ∃ R, shaN l = R := ⟨_, rfl⟩
          have hRl := shaN_length l
          have hq := sum_any b l w2 HS2.out (by have := HM.out; omega)
          rw [hR] at hq hRl
          have HRr := Lib.hid hR
          have HRl := Lib.hid hRl
          have HQ := Lib.hid hq
          clear hq hR hRl
          go_wp2_with fail
          refine HQ.out.mono ?_
          rintro e w3 ⟨rfl, hb3⟩
          have HS3 := Lib.hid (HS2.out.below hb3)
          have HB3 := Lib.hid (HB2.out.trans (hb3.mono HB2.out.size))
          have HPs3 := Lib.hid (Kd.R_below HPs.out hb3)
          clear hb3 HS2 HB2 HPs HQ
          go_wp2_with (refine store_ab .u8 w3.heap.size z32 R rfl rfl rfl rfl rfl (AB.mk w3 .u8 tSum z32) (by rw [HRl.out]; exact info_sum) (by rw [HRl.out]; rfl) ?_; intro W5 h5 hg5; (have H6 := Lib.hid h5); (have HG5 := Lib.hid hg5); clear h5 hg5)
          obtain ⟨hb5, hs5⟩ := below_new HG5.out
          have HS5 := Lib.hid (HS3.out.below hb5)
          have HB5 := Lib.hid (HB3.out.trans (hb5.mono HB3.out.size))
          have HPs5 := Lib.hid (Kd.R_below HPs3.out hb5)
          clear hb5 hs5 HS3 HB3 HPs3 HG5
          generalize w3.heap.size = b6 at *
          have HBn := Lib.hid (show b6 < W5.heap.size ∧ some b6 ≠ u7.ownBlock from ⟨H6.out.lt, Kd.R_ne HPs5.out H6.out (by decide)⟩)
          have heq := eq_sum R R HRl.out HRl.out
          have HW5 := Lib.hid HB5.out.size
          refine Q.wp_region_segs u7.ownBlock [([], some 0), ([1, 2, 3, 4, 5, 6, 7, 8, 9, 10, 11], some 12), ([], some 13), ([14, 15, 16, 17, 18, 19], some 20), ([], some 21), ([], some 22), ([23, 24, 25, 26, 28, 29], some 27), ([30, 31, 32], none)] (by kernel_rfl) (by kernel_rfl) (by kernel_rfl) (by kernel_rfl) ?_
          dsimp only [Q.wpSegs, Q.picks, Q.pick]
          refine wpQuiet_nil ?_
          go_wp2_with (go_at_call 14; refine (alive_any _).mono ?_; rintro e w6 ⟨rfl, hb6⟩; (have HB6 := Lib.hid hb6); clear hb6)
          refine Q.ev_keep HB6.out (Nat.le_refl _) ?_
          have HA6 := Lib.hid (H6.out.drew.below H6.out.lt HB6.out)
          have HS6 := Lib.hid ((HS5.out.below (stay0 W5)).below HB6.out)
          have HP6 := Lib.hid (Kd.R_below (Kd.R_below HPs5.out (stay0 W5)) HB6.out)
          have HW6 := Lib.hid (HB5.out.trans (((stay0 W5).trans HB6.out).mono HB5.out.size))
          have HZ6 := Lib.hid (show W5.heap.size ≤ w6.heap.size from HB6.out.size)
          clear HB6 H6 HS5 HPs5 HB5
          repeat (go_big_quiet_step (fail))
          refine quiet_loadG 29 (.tmp 11) (.pointer (some ⟨b6, 0, none⟩)) (.agg (arr .u8 R)) rfl rfl rfl (HA6.out.loadQR HBn.out.1 HBn.out.2 Try.underlying29 (by rw [HRl.out]; exact info_sum)) ?_
          go_simp
          repeat (go_big_quiet_step (fail))
          refine wpQuiet_nil ?_
          go_wp2_with fail
          refine Q.ev_keep ((Below.refl _ _).alloc (Nat.le_refl _) _) HZ6.out ?_
          refine wpQuiet_nil ?_
          have hq := of_any [l] _ 1 _ (RB_one 22 (Kd.C_below HC.out HW6.out) HL.out HCc.out) (by simp) (by have := HM.out; simp; omega) (by have := HM.out; simp; omega)
          rw [show ([l] : List (List Nat)).flatten = l from by simp, HRr.out] at hq
          have HQ := Lib.hid hq
          clear hq
          go_wp2_with (go_at_call 18; refine HQ.out.mono ?_; rintro e w7 ⟨rfl, hb7⟩; (have HB7 := Lib.hid hb7); clear hb7)
          clear HQ
          refine Q.ev_keep HB7.out (by rw [alloc_size]; have := HZ6.out; omega) ?_
          have hb67 : Below w6.heap.size w6 w7 := ((Below.refl _ _).alloc (Nat.le_refl _) _).trans (HB7.out.mono (by rw [alloc_size]; omega))
          have HA7 := Lib.hid (HA6.out.below HA6.out.lt hb67)
          have HS7 := Lib.hid (HS6.out.below hb67)
          have HP7 := Lib.hid (Kd.R_below HP6.out hb67)
          have HW7 := Lib.hid (HW6.out.trans (hb67.mono HW6.out.size))
          have HZ7 := Lib.hid (show W5.heap.size ≤ w7.heap.size from Nat.le_trans HZ6.out hb67.size)
          clear HB7 HA6 HS6 HP6 HW6 HZ6 hb67
          repeat (go_big_quiet_step (fail))
          refine quiet_loadG 29 (.tmp 11) (.pointer (some ⟨b6, 0, none⟩)) (.agg (arr .u8 R)) rfl rfl rfl (HA7.out.loadQR HBn.out.1 HBn.out.2 Try.underlying29 (by rw [HRl.out]; exact info_sum)) ?_
          go_simp
          repeat (go_big_quiet_step (fail))
          refine wpQuiet_nil ?_
          go_wp2_with fail
          refine Q.ev_keep ((Below.refl _ _).alloc (Nat.le_refl _) _) HZ7.out ?_
          refine wpQuiet_nil ?_
          have HPS := Lib.hid (HPl.out.snoc HP.out.row (HP.out.lt8 HL.out) HP.out.cap)
          refine unguard rfl ?_
          refine appkb kSl (w0 := w) w.heap.size w7.heap.size (.tmp 89) (.tmp 91) 40 22 (.slice none 0 0) 24 rfl rfl Try.underlying40 info_sl rfl (by decide) (by decide) u7 ps (A1, r.length, c1) [.slice A1 r.length c1] rfl rfl rfl (Kd.R_lt HP7.out) HP7.out HW7.out HW7.out.size (by have := HPl.out.1; have := HLl.out; have := HM.out; omega) ?_
          intro v9 w9 hr9 hb9 hg9 _
          have HR9 := Lib.hid hr9
          have HB9 := Lib.hid hb9
          have HG9 := Lib.hid hg9
          clear hr9 hb9 hg9
          obtain ⟨A9, c9, hv9, hc9, hC9⟩ := Kd.R_reads HR9.out
          have hfl : (L ++ [r]).flatten = l := by rw [List.flatten_append, HP.out.fl, HP.out.cut]; simp
          have hlen : r.length ≤ l.length := by rw [HP.out.cut, List.length_append]; omega
          have hq := of_any (L ++ [r]) A9 c9 w9 (RB_of_S hC9 (HPS.out.below HB9.out)) (by have := HLl.out; have := HM.out; simp; omega) (by rw [hfl]; have := HM.out; omega) (fun y hy => by
            have h1 := (List.sublist_flatten_of_mem hy).length_le
            rw [hfl] at h1
            have := HM.out
            omega)
          rw [← HPS.out.1, hfl, HRr.out, ← hv9] at hq
          have HQ := Lib.hid hq
          have hs9 := (HS7.out.below ((Below.refl _ _).alloc (Nat.le_refl _) (.cells #[.slice A1 r.length c1] 22))).over (Kd.R_below HP7.out ((Below.refl _ _).alloc (Nat.le_refl _) _)) HG9.out
          have HS9 := Lib.hid hs9
          have HGr := Lib.hid (show Q.Gr W5.heap.size u7.ownBlock (w7.alloc (.cells #[.slice A1 r.length c1] 22)) w9 from Q.Gr.of_grown HG9.out (by rw [alloc_size]; have := HZ7.out; omega))
          have HZ9 := Lib.hid (show W5.heap.size ≤ w9.heap.size from by have h1 := HG9.out.size; rw [alloc_size] at h1; have := HZ7.out; omega)
          clear hq hs9 hv9 hc9 hC9 hfl hlen HR9 HG9 HS7 HP7 HA7 HPS HW7 HZ7
          refine Q.ev_app HGr.out (Nat.le_refl _) (Q.NewRow.self _ _) ?_
          go_simp
          refine wpQuiet_nil ?_
          go_wp2_with (go_at_call 18; refine HQ.out.mono ?_; rintro e w10 ⟨rfl, hb10⟩; (have HB10 := Lib.hid hb10); clear hb10)
          clear HQ HGr
          refine Q.ev_keep HB10.out HZ9.out ?_
          have HS10 := Lib.hid (HS9.out.below HB10.out)
          have HW10 := Lib.hid (HB9.out.trans (HB10.out.mono HB9.out.size))
          have HZ10 := Lib.hid (show W5.heap.size ≤ w10.heap.size from Nat.le_trans HZ9.out HB10.out.size)
          clear HB10 HS9 HB9 HZ9
          repeat (go_big_quiet_step (fail))
          refine wpQuiet_nil ?_
          have HQ := Lib.hid (len_any b l w10 HS10.out)
          go_wp2_with (go_at_call 20; refine HQ.out.mono ?_; rintro e w11 ⟨rfl, h11⟩; (rw [h11]); clear h11 w11)
          clear HQ
          refine Q.ev_keep (Below.refl _ _) HZ10.out ?_
          repeat (go_big_quiet_step (fail))
          refine wpQuiet_nil ?_
          refine NoPanic.normal ?_
          go_wp2_with fail
          go_ret
          exact ⟨rfl, HW10.out⟩
        · have t1 : decide ((i : Int) < (cuts.length : Int)) = false := decide_eq_false (by omega)
          have t1n : decide (i < cuts.length) = false := decide_eq_false hlt
          have t1i : (cuts.length : Int) ≤ (i : Int) := by omega
          have hjl := HJ.out.1
          clear hgo hlt
          have hlen : l.length = done.length + r.length := by rw [HP.out.cut, List.length_append]
          have hq := add_any b done r A1 c1 wr HP.out.sh (Kd.C_below HP.out.row HP.out.bel) (HP.out.lt8 HL.out) (by have := HM.out; omega) (by have := HM.out; omega)
          rw [← HP.out.cut] at hq
          have HQ := Lib.hid hq
          clear hq hlen
          go_wp2_with fail
          refine HQ.out.mono ?_
          rintro e w2 ⟨rfl, hs2, hg2⟩
          have HS2 := Lib.hid hs2
          have HB2 := Lib.hid (below_grown HP.out.bel HP.out.bel.size hg2 HP.out.blt)
          obtain ⟨ps, hps, hpl⟩ := HP.out.parts
          have HPs := Lib.hid (show kSl.R 22 w2 w.heap.size (fun _ => True) u7 ps from by
            obtain ⟨A9, c9, h9⟩ := HP.out.sh
            exact R_obj hps h9.g.blk (by intro q hq; simp [show kSl.E = [] from rfl] at hq; subst hq; decide) hg2)
          have HPl := Lib.hid hpl
          clear hs2 hg2 HQ hps hpl
          obtain ⟨R, hR⟩ : ∃ R, shaN l = R := ⟨_, rfl⟩
          have hRl := shaN_length l
          have hq := sum_any b l w2 HS2.out (by have := HM.out; omega)
          rw [hR] at hq hRl
          have HRr := Lib.hid hR
          have HRl := Lib.hid hRl
          have HQ := Lib.hid hq
          clear hq hR hRl
          go_wp2_with fail
          refine HQ.out.mono ?_
          rintro e w3 ⟨rfl, hb3⟩
          have HS3 := Lib.hid (HS2.out.below hb3)
          have HB3 := Lib.hid (HB2.out.trans (hb3.mono HB2.out.size))
          have HPs3 := Lib.hid (Kd.R_below HPs.out hb3)
          clear hb3 HS2 HB2 HPs HQ
          go_wp2_with (refine store_ab .u8 w3.heap.size z32 R rfl rfl rfl rfl rfl (AB.mk w3 .u8 tSum z32) (by rw [HRl.out]; exact info_sum) (by rw [HRl.out]; rfl) ?_; intro W5 h5 hg5; (have H6 := Lib.hid h5); (have HG5 := Lib.hid hg5); clear h5 hg5)
          obtain ⟨hb5, hs5⟩ := below_new HG5.out
          have HS5 := Lib.hid (HS3.out.below hb5)
          have HB5 := Lib.hid (HB3.out.trans (hb5.mono HB3.out.size))
          have HPs5 := Lib.hid (Kd.R_below HPs3.out hb5)
          clear hb5 hs5 HS3 HB3 HPs3 HG5
          generalize w3.heap.size = b6 at *
          have HBn := Lib.hid (show b6 < W5.heap.size ∧ some b6 ≠ u7.ownBlock from ⟨H6.out.lt, Kd.R_ne HPs5.out H6.out (by decide)⟩)
          have heq := eq_sum R R HRl.out HRl.out
          have HW5 := Lib.hid HB5.out.size
          refine Q.wp_region_segs u7.ownBlock [([], some 0), ([1, 2, 3, 4, 5, 6, 7, 8, 9, 10, 11], some 12), ([], some 13), ([14, 15, 16, 17, 18, 19], some 20), ([], some 21), ([], some 22), ([23, 24, 25, 26, 28, 29], some 27), ([30, 31, 32], none)] (by kernel_rfl) (by kernel_rfl) (by kernel_rfl) (by kernel_rfl) ?_
          dsimp only [Q.wpSegs, Q.picks, Q.pick]
          refine wpQuiet_nil ?_
          go_wp2_with (go_at_call 14; refine (alive_any _).mono ?_; rintro e w6 ⟨rfl, hb6⟩; (have HB6 := Lib.hid hb6); clear hb6)
          refine Q.ev_keep HB6.out (Nat.le_refl _) ?_
          have HA6 := Lib.hid (H6.out.drew.below H6.out.lt HB6.out)
          have HS6 := Lib.hid ((HS5.out.below (stay0 W5)).below HB6.out)
          have HP6 := Lib.hid (Kd.R_below (Kd.R_below HPs5.out (stay0 W5)) HB6.out)
          have HW6 := Lib.hid (HB5.out.trans (((stay0 W5).trans HB6.out).mono HB5.out.size))
          have HZ6 := Lib.hid (show W5.heap.size ≤ w6.heap.size from HB6.out.size)
          clear HB6 H6 HS5 HPs5 HB5
          repeat (go_big_quiet_step (fail))
          refine quiet_loadG 29 (.tmp 11) (.pointer (some ⟨b6, 0, none⟩)) (.agg (arr .u8 R)) rfl rfl rfl (HA6.out.loadQR HBn.out.1 HBn.out.2 Try.underlying29 (by rw [HRl.out]; exact info_sum)) ?_
          go_simp
          repeat (go_big_quiet_step (fail))
          refine wpQuiet_nil ?_
          go_wp2_with fail
          refine Q.ev_keep ((Below.refl _ _).alloc (Nat.le_refl _) _) HZ6.out ?_
          refine wpQuiet_nil ?_
          have hq := of_any [l] _ 1 _ (RB_one 22 (Kd.C_below HC.out HW6.out) HL.out HCc.out) (by simp) (by have := HM.out; simp; omega) (by have := HM.out; simp; omega)
          rw [show ([l] : List (List Nat)).flatten = l from by simp, HRr.out] at hq
          have HQ := Lib.hid hq
          clear hq
          go_wp2_with (go_at_call 18; refine HQ.out.mono ?_; rintro e w7 ⟨rfl, hb7⟩; (have HB7 := Lib.hid hb7); clear hb7)
          clear HQ
          refine Q.ev_keep HB7.out (by rw [alloc_size]; have := HZ6.out; omega) ?_
          have hb67 : Below w6.heap.size w6 w7 := ((Below.refl _ _).alloc (Nat.le_refl _) _).trans (HB7.out.mono (by rw [alloc_size]; omega))
          have HA7 := Lib.hid (HA6.out.below HA6.out.lt hb67)
          have HS7 := Lib.hid (HS6.out.below hb67)
          have HP7 := Lib.hid (Kd.R_below HP6.out hb67)
          have HW7 := Lib.hid (HW6.out.trans (hb67.mono HW6.out.size))
          have HZ7 := Lib.hid (show W5.heap.size ≤ w7.heap.size from Nat.le_trans HZ6.out hb67.size)
          clear HB7 HA6 HS6 HP6 HW6 HZ6 hb67
          repeat (go_big_quiet_step (fail))
          refine quiet_loadG 29 (.tmp 11) (.pointer (some ⟨b6, 0, none⟩)) (.agg (arr .u8 R)) rfl rfl rfl (HA7.out.loadQR HBn.out.1 HBn.out.2 Try.underlying29 (by rw [HRl.out]; exact info_sum)) ?_
          go_simp
          repeat (go_big_quiet_step (fail))
          refine wpQuiet_nil ?_
          go_wp2_with fail
          refine Q.ev_keep ((Below.refl _ _).alloc (Nat.le_refl _) _) HZ7.out ?_
          refine wpQuiet_nil ?_
          have HPS := Lib.hid (HPl.out.snoc HP.out.row (HP.out.lt8 HL.out) HP.out.cap)
          refine unguard rfl ?_
          refine appkb kSl (w0 := w) w.heap.size w7.heap.size (.tmp 89) (.tmp 91) 40 22 (.slice none 0 0) 24 rfl rfl Try.underlying40 info_sl rfl (by decide) (by decide) u7 ps (A1, r.length, c1) [.slice A1 r.length c1] rfl rfl rfl (Kd.R_lt HP7.out) HP7.out HW7.out HW7.out.size (by have := HPl.out.1; have := HLl.out; have := HM.out; omega) ?_
          intro v9 w9 hr9 hb9 hg9 _
          have HR9 := Lib.hid hr9
          have HB9 := Lib.hid hb9
          have HG9 := Lib.hid hg9
          clear hr9 hb9 hg9
          obtain ⟨A9, c9, hv9, hc9, hC9⟩ := Kd.R_reads HR9.out
          have hfl : (L ++ [r]).flatten = l := by rw [List.flatten_append, HP.out.fl, HP.out.cut]; simp
          have hlen : r.length ≤ l.length := by rw [HP.out.cut, List.length_append]; omega
          have hq := of_any (L ++ [r]) A9 c9 w9 (RB_of_S hC9 (HPS.out.below HB9.out)) (by have := HLl.out; have := HM.out; simp; omega) (by rw [hfl]; have := HM.out; omega) (fun y hy => by
            have h1 := (List.sublist_flatten_of_mem hy).length_le
            rw [hfl] at h1
            have := HM.out
            omega)
          rw [← HPS.out.1, hfl, HRr.out, ← hv9] at hq
          have HQ := Lib.hid hq
          have hs9 := (HS7.out.below ((Below.refl _ _).alloc (Nat.le_refl _) (.cells #[.slice A1 r.length c1] 22))).over (Kd.R_below HP7.out ((Below.refl _ _).alloc (Nat.le_refl _) _)) HG9.out
          have HS9 := Lib.hid hs9
          have HGr := Lib.hid (show Q.Gr W5.heap.size u7.ownBlock (w7.alloc (.cells #[.slice A1 r.length c1] 22)) w9 from Q.Gr.of_grown HG9.out (by rw [alloc_size]; have := HZ7.out; omega))
          have HZ9 := Lib.hid (show W5.heap.size ≤ w9.heap.size from by have h1 := HG9.out.size; rw [alloc_size] at h1; have := HZ7.out; omega)
          clear hq hs9 hv9 hc9 hC9 hfl hlen HR9 HG9 HS7 HP7 HA7 HPS HW7 HZ7
          refine Q.ev_app HGr.out (Nat.le_refl _) (Q.NewRow.self _ _) ?_
          go_simp
          refine wpQuiet_nil ?_
          go_wp2_with (go_at_call 18; refine HQ.out.mono ?_; rintro e w10 ⟨rfl, hb10⟩; (have HB10 := Lib.hid hb10); clear hb10)
          clear HQ HGr
          refine Q.ev_keep HB10.out HZ9.out ?_
          have HS10 := Lib.hid (HS9.out.below HB10.out)
          have HW10 := Lib.hid (HB9.out.trans (HB10.out.mono HB9.out.size))
          have HZ10 := Lib.hid (show W5.heap.size ≤ w10.heap.size from Nat.le_trans HZ9.out HB10.out.size)
          clear HB10 HS9 HB9 HZ9
          repeat (go_big_quiet_step (fail))
          refine wpQuiet_nil ?_
          have HQ := Lib.hid (len_any b l w10 HS10.out)
          go_wp2_with (go_at_call 20; refine HQ.out.mono ?_; rintro e w11 ⟨rfl, h11⟩; (rw [h11]); clear h11 w11)
          clear HQ
          refine Q.ev_keep (Below.refl _ _) HZ10.out ?_
          repeat (go_big_quiet_step (fail))
          refine wpQuiet_nil ?_
          refine NoPanic.normal ?_
          go_wp2_with fail
          go_ret
          exact ⟨rfl, HW10.out⟩
theorem pieces_walk (l : List Int) (A : Option Addr) (c : Nat) (cuts : List Int) (A2 : Option Addr) (c2 : Nat) (w : World) (hC : (Kd.int .u8).C w A l.length l) (hc : l.length ≤ c) (hl : ∀ x ∈ l, 0 ≤ x ∧ x < 256) (hC2 : (Kd.int .u8).C w A2 cuts.length cuts) (hl2 : ∀ x ∈ cuts, 0 ≤ x ∧ x < 256) :
    Calls Try.prog 4 #[.slice A l.length c, .slice A2 cuts.length c2] w fun e w' => e = .returned (.bool true) ∧ Below w.heap.size w w' := by
  obtain ⟨m1, e1, k1, l1, _⟩ := C_nat (m := 256) hC hl
  obtain ⟨m2, e2, k2, l2, _⟩ := C_nat (m := 256) hC2 hl2
  rw [← e1, ← e2]
  exact pieces_nat m1 m2 A A2 c c2 w k1 (by omega) l1 k2 l2
theorem asks_walk (L : List (List Int)) (A : Option Addr) (c : Nat) (w : World) (hC : (Kd.slice 5 (Kd.int .u8)).C w A L.length L) (hc : L.length ≤ c) (hL : ∀ x ∈ L, ∀ y ∈ x, 0 ≤ y ∧ y < 256) :
    Calls Try.prog 5 #[.slice A L.length c] w fun e w' => e = .returned (.bool true) ∧ Below w.heap.size w w' := by
  obtain ⟨M, e1, hR, hm, _⟩ := RB_of_C hC hL
  rw [← e1]
  exact asks_nat M A c w hR (by omega) (by omega)
end Go.Proofs.Ytagfplcafeblbaa.H
