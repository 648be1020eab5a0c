/-
  mac: the law of keys with zeros behind them.
-/
import Derived.Test.YtagfplcafeblbaaMf
import Derived.Test.YtagfplcafeblbaaNh
import Derived.Test.YtagfplcafeblbaaHl
import Derived.Test.YtagfplcafeblbaaQd
namespace Go.Proofs.Ytagfplcafeblbaa.Mc
open Go.RowKit Go.Proofs.Ytagfplcafeblbaa.L Go.Proofs.Ytagfplcafeblbaa.N Go.Proofs.Ytagfplcafeblbaa.H Go.Proofs.YtagfplcafeblbaaW.PrintWords

theorem bs_zeros {key : List Nat} {k : Nat} (h : key.length + k ≤ 64) : bsN (key ++ List.replicate k 0) = bsN key := by
  have e1 : kkN (key ++ List.replicate k 0) = key ++ List.replicate k 0 := by unfold kkN; rw [if_neg (by simp; omega)]
  have e2 : kkN key = key := by unfold kkN; rw [if_neg (by omega)]
  rw [bsN, bsN, e1, e2, List.append_assoc, List.replicate_append_replicate]
  congr 2
  simp
  omega
theorem mark_zeros {key x b : List Nat} {k : Nat} (hx : key ++ List.replicate k 0 = x) (h : key.length + k ≤ 64) : markN x b = markN key b := by
  subst hx
  simp only [markN, pdN, bs_zeros h]
theorem take_drop_flat (b : List Nat) (i : Nat) : ([b.take i, b.drop i] : List (List Nat)).flatten = b := by simp
theorem RB_two {w : World} {A1 A2 : Option Addr} {c1 c2 n1 n2 : Nat} {x y : List Nat} (t : TypeId) (hn1 : x.length = n1) (hn2 : y.length = n2) (hC1 : (Kd.int .u8).C w A1 n1 (nat x)) (h1 : ∀ z ∈ x, z < 256) (hc1 : n1 ≤ c1) (hC2 : (Kd.int .u8).C w A2 n2 (nat y)) (h2 : ∀ z ∈ y, z < 256) (hc2 : n2 ≤ c2) :
    RB (w.alloc (.cells #[.slice A1 n1 c1, .slice A2 n2 c2] t)) (some ⟨w.heap.size, 0, none⟩) [x, y] := by
  subst hn1 hn2
  refine RB_blk (heap_alloc_new w _) (fun j hj => ?_)
  have : j = 0 ∨ j = 1 := by simp at hj; omega
  rcases this with rfl | rfl
  · exact ⟨A1, c1, rfl, Kd.C_alloc hC1 _, h1, hc1⟩
  · exact ⟨A2, c2, rfl, Kd.C_alloc hC2 _, h2, hc2⟩
theorem R_blank1 (W : World) : (Kd.int .u8).R 5 (W.alloc (.cells #[] 5)) W.heap.size (fun _ => True) (.slice (some ⟨W.heap.size, 0, none⟩) 0 0) (nat []) :=
  ⟨fun _ _ => trivial, [], ⟨by simp [nat], .inr ⟨W.heap.size, 0, #[], by simp [nat], Nat.le_refl _, heap_alloc_new W _, Nat.le_refl _, by decide, by simp, by simp⟩⟩, Reps.none _ _⟩
set_option maxRecDepth 100000 in
set_option maxHeartbeats 3200000 in
theorem keys_nat (key b : List Nat) (A B : Option Addr) (ca cb : Nat) (n at' : Int) (w : World) (hA : (Kd.int .u8).C w A key.length (nat key)) (hca : key.length ≤ ca) (ha : ∀ x ∈ key, x < 256) (hB : (Kd.int .u8).C w B b.length (nat b)) (hcb : b.length ≤ cb) (hb : ∀ x ∈ b, x < 256) :
    Calls Try.prog 13 #[.slice A key.length ca, .slice B b.length cb, .int .i64 n, .int .i64 at'] w fun e w' => e = .returned (.bool true) ∧ Below w.heap.size w w' := by
  have hm1 := (B_open hA).1
  have hm2 := (B_open hB).1
  by_cases hg0 : 64 < key.length
  · have HAl := Lib.hid (alive_any w)
    have tg_key : decide ((64 : Int) < (key.length : Int)) = true := decide_eq_true (by omega)
    clear hA hca ha hB hcb hb hg0
    go_enter Try.func13, Try.ntmps13
    go_wp2_with fail
    refine HAl.out.mono ?_
    rintro e w1 ⟨rfl, hb⟩
    go_wp2_with fail
    go_ret
    exact ⟨rfl, hb⟩
  have tg_key : decide ((64 : Int) < (key.length : Int)) = false := decide_eq_false (by omega)
  by_cases hg1 : 1000 < b.length
  · have HAl := Lib.hid (alive_any w)
    have tg_b : decide ((1000 : Int) < (b.length : Int)) = true := decide_eq_true (by omega)
    clear hA hca ha hB hcb hb hg0 hg1
    go_enter Try.func13, Try.ntmps13
    go_wp2_with fail
    refine HAl.out.mono ?_
    rintro e w1 ⟨rfl, hb⟩
    go_wp2_with fail
    go_ret
    exact ⟨rfl, hb⟩
  have tg_b : decide ((1000 : Int) < (b.length : Int)) = false := decide_eq_false (by omega)
  by_cases hg2 : n < 0
  · have HAl := Lib.hid (alive_any w)
    have tl_n : decide (n < 0) = true := decide_eq_true (by omega)
    clear hA hca ha hB hcb hb hg0 hg1 hg2
    go_enter Try.func13, Try.ntmps13
    go_wp2_with fail
    refine HAl.out.mono ?_
    rintro e w1 ⟨rfl, hb⟩
    go_wp2_with fail
    go_ret
    exact ⟨rfl, hb⟩
  have tl_n : decide (n < 0) = false := decide_eq_false (by omega)
  by_cases hg3 : (64 : Int) - (key.length : Int) < n
  · have HAl := Lib.hid (alive_any w)
    have tm : decide ((64 : Int) - (key.length : Int) < n) = true := decide_eq_true (by omega)
    have tmz : key.length ≤ 64 := by omega
    clear hA hca ha hB hcb hb hg0 hg1 hg2 hg3
    go_enter Try.func13, Try.ntmps13
    go_wp2_with fail
    refine HAl.out.mono ?_
    rintro e w1 ⟨rfl, hb⟩
    go_wp2_with fail
    go_ret
    exact ⟨rfl, hb⟩
  have tm : decide ((64 : Int) - (key.length : Int) < n) = false := decide_eq_false (by omega)
  by_cases hg4 : at' < 0
  · have HAl := Lib.hid (alive_any w)
    have tl_at' : decide (at' < 0) = true := decide_eq_true (by omega)
    clear hA hca ha hB hcb hb hg0 hg1 hg2 hg3 hg4
    go_enter Try.func13, Try.ntmps13
    go_wp2_with fail
    refine HAl.out.mono ?_
    rintro e w1 ⟨rfl, hb⟩
    go_wp2_with fail
    go_ret
    exact ⟨rfl, hb⟩
  have tl_at' : decide (at' < 0) = false := decide_eq_false (by omega)
  by_cases hg5 : (b.length : Int) < at'
  · have HAl := Lib.hid (alive_any w)
    have ta : decide ((b.length : Int) < at') = true := decide_eq_true (by omega)
    clear hA hca ha hB hcb hb hg0 hg1 hg2 hg3 hg4 hg5
    go_enter Try.func13, Try.ntmps13
    go_wp2_with fail
    refine HAl.out.mono ?_
    rintro e w1 ⟨rfl, hb⟩
    go_wp2_with fail
    go_ret
    exact ⟨rfl, hb⟩
  have ta : decide ((b.length : Int) < at') = false := decide_eq_false (by omega)
  obtain ⟨k, rfl⟩ : ∃ k : Nat, n = (k : Int) := ⟨n.toNat, by omega⟩
  obtain ⟨i, rfl⟩ : ∃ i : Nat, at' = (i : Int) := ⟨at'.toNat, by omega⟩
  have hL : key.length + k ≤ 64 ∧ b.length ≤ 1000 ∧ i ≤ b.length := ⟨by omega, by omega, by omega⟩
  obtain ⟨hct, hCt⟩ := cutT B b.length cb (i : Int) i rfl hL.2.2 hcb
  obtain ⟨A3, c3, hcf, hc3, hCf⟩ := cutF B b.length cb (i : Int) i rfl hL.2.2 hcb
  have htl : (b.take i).length = i := by rw [List.length_take]; exact Nat.min_eq_left hL.2.2
  have hdl : (b.drop i).length = b.length - i := List.length_drop
  have HA := Lib.hid hA
  have HCa := Lib.hid hca
  have Ha := Lib.hid ha
  have HB := Lib.hid hB
  have HCb := Lib.hid hcb
  have Hb := Lib.hid hb
  have HL := Lib.hid hL
  have HCt := Lib.hid hCt
  have HCf := Lib.hid hCf
  have HC3 := Lib.hid hc3
  have HTl := Lib.hid htl
  have HDl := Lib.hid hdl
  have z1 : (k : Int) ≤ 64 := by omega
  have z2 : (0 : Int) ≤ (k : Int) := by omega
  have z3 : (0 : Int) ≤ (i : Int) := by omega
  have z4 : (i : Int) ≤ (b.length : Int) := by omega
  clear hA hca ha hB hcb hb hL hCt hCf hc3 htl hdl hg0 hg1 hg2 hg3 hg4 hg5
  have tn1 : decide (b.length < i) = false := decide_eq_false (by have := HL.out; omega)
  obtain ⟨x, hx⟩ : ∃ x, key ++ List.replicate k 0 = x := ⟨_, rfl⟩
  have hxl : x.length ≤ 64 := by rw [← hx]; have := HL.out; simp; omega
  have Hxl := Lib.hid hxl
  have Hx8 := Lib.hid (show ∀ y ∈ x, y < 256 from by
    rw [← hx]
    exact app_lt Ha.out (fun y hy => by rw [List.eq_of_mem_replicate hy]; decide))
  have Hx := Lib.hid hx
  have HMe := Lib.hid (mark_zeros (b := b) hx HL.out.1)
  obtain ⟨Z, hZ⟩ : ∃ Z, markN key b = Z := ⟨_, rfl⟩
  have hZl := markN_len key b
  rw [hZ] at HMe hZl
  have HZ := Lib.hid hZ
  have HZl := Lib.hid hZl
  have HBw := Lib.hid (Nat.le_refl w.heap.size)
  clear hx hxl hZ hZl
  go_enter Try.func13, Try.ntmps13
  go_wp2_with (at_builtin; first | (refine appn (w0 := w) .u8 w.heap.size (.tmp 40) (.tmp 41) 22 5 1 rfl rfl Try.underlying22 info_u8 (by decide) (.slice (some ⟨w.heap.size, 0, none⟩) 0 0) (nat []) (nat key) A key.length ca rfl rfl (R_blank1 w) (Kd.C_alloc HA.out _) ((Below.refl _ _).alloc (Nat.le_refl _) _) (by simp) (by have := HL.out; simp [nat_length]; omega) ?_; intro v1 W1 h1 h2 _; (have H1 := Lib.hid h1); (have H2 := Lib.hid h2); clear h1 h2) | (refine app_zeros (w0 := w) w.heap.size (.tmp 42) (.tmp 43) rfl rfl v1 key k rfl rfl (by have h := H1.out; simpa [nat] using h) H2.out H2.out.size (by have := HL.out; omega) ?_; intro v2 W2 h3 h4 _; (have H3 := Lib.hid h3); (have H4 := Lib.hid h4); clear h3 h4 H1 H2))
  rw [Hx.out] at H3
  refine Q.wp_region_trB w.heap.size none (.ev [] 0 (.two [1, 2, 3, 6, 7, 8, 9, 10, 11, 12] 4 (.two [] 5 (.ev [] 13 (.ev [] 14 (.done [15, 16, 17]))) 13 (.ev [] 5 (.ev [] 14 (.done [15, 16, 17])))) 13 (.ev [] 4 (.ev [] 5 (.ev [] 14 (.done [15, 16, 17])))))) (by kernel_rfl) (by kernel_rfl) (by kernel_rfl) (by kernel_rfl) ?_
  dsimp only [Q.wpTr, Q.picks, Q.pick]
  refine wpQuiet_nil ?_
  obtain ⟨A2, c2, hv2, hc2, hC2⟩ := Kd.R_reads H3.out
  rw [nat_length] at hv2 hc2 hC2
  subst hv2
  have HC2 := Lib.hid hC2
  have Hc2 := Lib.hid hc2
  clear hc2 hC2
  go_wp2_with (go_at_call 32; refine (alive_any _).mono ?_; rintro e W3 ⟨rfl, hb3⟩; (have HB3 := Lib.hid hb3); clear hb3)
  refine Q.ev_keep HB3.out H4.out.size ?_
  have HBa := Lib.hid (H4.out.drew.trans (HB3.out.mono H4.out.size))
  have HCx := Lib.hid (Kd.C_below HC2.out ((stay0 W2).trans HB3.out))
  have HAa := Lib.hid (Kd.C_below HA.out HBa.out)
  have HBb := Lib.hid (Kd.C_below HB.out HBa.out)
  clear HB3 HC2 H3 H4 hct
  obtain ⟨hct, _⟩ := cutT B b.length cb (i : Int) i rfl HL.out.2.2 HCb.out
  rename_i hct0
  clear hct0
  repeat (go_big_quiet_step (fail))
  refine wpQuiet_nil ?_
  refine ⟨?_, ?_⟩
  · go_wp2_with fail
    have hr := RB_one 22 HBb.out Hb.out HCb.out
    have hb' : Below W3.heap.size W3 (W3.alloc (.cells #[.slice B b.length cb] 22)) := (Below.refl _ _).alloc (Nat.le_refl _) _
    refine Q.ev_keep hb' HBa.out.size ?_
    obtain ⟨W4, hWn⟩ : ∃ W', W3.alloc (.cells #[.slice B b.length cb] 22) = W' := ⟨_, rfl⟩
    obtain ⟨g4, hgn⟩ : ∃ g, W3.heap.size = g := ⟨_, rfl⟩
    rw [hWn] at hr hb' ⊢
    have HBn := Lib.hid hb'
    rw [hgn] at hr ⊢
    have HR4 := Lib.hid hr
    clear hr hb' hWn hgn
    have HCx4 := Lib.hid (Kd.C_below HCx.out HBn.out)
    have HAa4 := Lib.hid (Kd.C_below HAa.out HBn.out)
    have HBb4 := Lib.hid (Kd.C_below HBb.out HBn.out)
    have HBa4 := Lib.hid (HBa.out.trans (HBn.out.mono HBa.out.size))
    clear HBn
    refine wpQuiet_nil ?_
    refine ⟨?_, ?_⟩
    · have hq := mark_any x [b] A2 (some ⟨g4, 0, none⟩) c2 1 W4 HCx4.out Hc2.out Hx8.out (by have := Hxl.out; omega) HR4.out (by simp) (by have := HL.out; simp; omega)
      rw [show ([b] : List (List Nat)).flatten = b from by simp, HMe.out] at hq
      have HQ := Lib.hid hq
      clear hq
      go_wp2_with (go_at_call 33; refine HQ.out.mono ?_; rintro e W5 ⟨rfl, hbn⟩; (have HBn := Lib.hid hbn); clear hbn)
      clear HQ
      refine Q.ev_keep HBn.out HBa4.out.size ?_
      have HCx5 := Lib.hid (Kd.C_below HCx4.out HBn.out)
      have HAa5 := Lib.hid (Kd.C_below HAa4.out HBn.out)
      have HBb5 := Lib.hid (Kd.C_below HBb4.out HBn.out)
      have RB1_5 := Lib.hid (HR4.out.below HBn.out)
      have HBa5 := Lib.hid (HBa4.out.trans (HBn.out.mono HBa4.out.size))
      clear HBn
      refine wpQuiet_nil ?_
      go_wp2_with fail
      have hr := RB_two (c1 := cb) (c2 := c3) 22 HTl.out HDl.out (HCt.out _ _ HBb5.out) (take_lt _ Hb.out) (by have := HL.out; have := HCb.out; omega) (HCf.out _ _ HBb5.out) (drop_lt _ Hb.out) HC3.out
      have hb' : Below W5.heap.size W5 (W5.alloc (.cells #[.slice B i cb, .slice A3 (b.length - i) c3] 22)) := (Below.refl _ _).alloc (Nat.le_refl _) _
      refine Q.ev_keep hb' HBa5.out.size ?_
      obtain ⟨W6, hWn⟩ : ∃ W', W5.alloc (.cells #[.slice B i cb, .slice A3 (b.length - i) c3] 22) = W' := ⟨_, rfl⟩
      obtain ⟨g6, hgn⟩ : ∃ g, W5.heap.size = g := ⟨_, rfl⟩
      rw [hWn] at hr hb' ⊢
      have HBn := Lib.hid hb'
      rw [hgn] at hr ⊢
      have HR6 := Lib.hid hr
      clear hr hb' hWn hgn
      have HCx6 := Lib.hid (Kd.C_below HCx5.out HBn.out)
      have HAa6 := Lib.hid (Kd.C_below HAa5.out HBn.out)
      have HBb6 := Lib.hid (Kd.C_below HBb5.out HBn.out)
      have RB1_6 := Lib.hid (RB1_5.out.below HBn.out)
      have HBa6 := Lib.hid (HBa5.out.trans (HBn.out.mono HBa5.out.size))
      clear HBn
      refine wpQuiet_nil ?_
      have hq := mark_any key [b.take i, b.drop i] A (some ⟨g6, 0, none⟩) ca 2 W6 HAa6.out HCa.out Ha.out (by have := HL.out; omega) HR6.out (by simp) (by have := HL.out; rw [take_drop_flat]; omega)
      rw [take_drop_flat, HZ.out] at hq
      have HQ := Lib.hid hq
      clear hq
      go_wp2_with (go_at_call 33; refine HQ.out.mono ?_; rintro e W7 ⟨rfl, hbn⟩; (have HBn := Lib.hid hbn); clear hbn)
      clear HQ
      refine Q.ev_keep HBn.out HBa6.out.size ?_
      have HCx7 := Lib.hid (Kd.C_below HCx6.out HBn.out)
      have HAa7 := Lib.hid (Kd.C_below HAa6.out HBn.out)
      have HBb7 := Lib.hid (Kd.C_below HBb6.out HBn.out)
      have RB1_7 := Lib.hid (RB1_6.out.below HBn.out)
      have RB2_7 := Lib.hid (HR6.out.below HBn.out)
      have HBa7 := Lib.hid (HBa6.out.trans (HBn.out.mono HBa6.out.size))
      clear HBn
      have heq := eq_sum Z Z HZl.out HZl.out
      repeat (go_big_quiet_step (fail))
      refine wpQuiet_nil ?_
      refine NoPanic.normal ?_
      go_wp2_with fail
      go_ret
      exact ⟨rfl, HBa7.out⟩
    · go_wp2_with fail
      have hr := RB_two (c1 := cb) (c2 := c3) 22 HTl.out HDl.out (HCt.out _ _ HBb4.out) (take_lt _ Hb.out) (by have := HL.out; have := HCb.out; omega) (HCf.out _ _ HBb4.out) (drop_lt _ Hb.out) HC3.out
      have hb' : Below W4.heap.size W4 (W4.alloc (.cells #[.slice B i cb, .slice A3 (b.length - i) c3] 22)) := (Below.refl _ _).alloc (Nat.le_refl _) _
      refine Q.ev_keep hb' HBa4.out.size ?_
      obtain ⟨W8, hWn⟩ : ∃ W', W4.alloc (.cells #[.slice B i cb, .slice A3 (b.length - i) c3] 22) = W' := ⟨_, rfl⟩
      obtain ⟨g8, hgn⟩ : ∃ g, W4.heap.size = g := ⟨_, rfl⟩
      rw [hWn] at hr hb' ⊢
      have HBn := Lib.hid hb'
      rw [hgn] at hr ⊢
      have HR8 := Lib.hid hr
      clear hr hb' hWn hgn
      have HCx8 := Lib.hid (Kd.C_below HCx4.out HBn.out)
      have HAa8 := Lib.hid (Kd.C_below HAa4.out HBn.out)
      have HBb8 := Lib.hid (Kd.C_below HBb4.out HBn.out)
      have RB1_8 := Lib.hid (HR4.out.below HBn.out)
      have HBa8 := Lib.hid (HBa4.out.trans (HBn.out.mono HBa4.out.size))
      clear HBn
      refine wpQuiet_nil ?_
      have hq := mark_any x [b] A2 (some ⟨g4, 0, none⟩) c2 1 W8 HCx8.out Hc2.out Hx8.out (by have := Hxl.out; omega) RB1_8.out (by simp) (by have := HL.out; simp; omega)
      rw [show ([b] : List (List Nat)).flatten = b from by simp, HMe.out] at hq
      have HQ := Lib.hid hq
      clear hq
      go_wp2_with (go_at_call 33; refine HQ.out.mono ?_; rintro e W9 ⟨rfl, hbn⟩; (have HBn := Lib.hid hbn); clear hbn)
      clear HQ
      refine Q.ev_keep HBn.out HBa8.out.size ?_
      have HCx9 := Lib.hid (Kd.C_below HCx8.out HBn.out)
      have HAa9 := Lib.hid (Kd.C_below HAa8.out HBn.out)
      have HBb9 := Lib.hid (Kd.C_below HBb8.out HBn.out)
      have RB1_9 := Lib.hid (RB1_8.out.below HBn.out)
      have RB2_9 := Lib.hid (HR8.out.below HBn.out)
      have HBa9 := Lib.hid (HBa8.out.trans (HBn.out.mono HBa8.out.size))
      clear HBn
      refine wpQuiet_nil ?_
      have hq := mark_any key [b.take i, b.drop i] A (some ⟨g8, 0, none⟩) ca 2 W9 HAa9.out HCa.out Ha.out (by have := HL.out; omega) RB2_9.out (by simp) (by have := HL.out; rw [take_drop_flat]; omega)
      rw [take_drop_flat, HZ.out] at hq
      have HQ := Lib.hid hq
      clear hq
      go_wp2_with (go_at_call 33; refine HQ.out.mono ?_; rintro e W10 ⟨rfl, hbn⟩; (have HBn := Lib.hid hbn); clear hbn)
      clear HQ
      refine Q.ev_keep HBn.out HBa9.out.size ?_
      have HCx10 := Lib.hid (Kd.C_below HCx9.out HBn.out)
      have HAa10 := Lib.hid (Kd.C_below HAa9.out HBn.out)
      have HBb10 := Lib.hid (Kd.C_below HBb9.out HBn.out)
      have RB1_10 := Lib.hid (RB1_9.out.below HBn.out)
      have RB2_10 := Lib.hid (RB2_9.out.below HBn.out)
      have HBa10 := Lib.hid (HBa9.out.trans (HBn.out.mono HBa9.out.size))
      clear HBn
      have heq := eq_sum Z Z HZl.out HZl.out
      repeat (go_big_quiet_step (fail))
      refine wpQuiet_nil ?_
      refine NoPanic.normal ?_
      go_wp2_with fail
      go_ret
      exact ⟨rfl, HBa10.out⟩
  · go_wp2_with fail
    have hr := RB_two (c1 := cb) (c2 := c3) 22 HTl.out HDl.out (HCt.out _ _ HBb.out) (take_lt _ Hb.out) (by have := HL.out; have := HCb.out; omega) (HCf.out _ _ HBb.out) (drop_lt _ Hb.out) HC3.out
    have hb' : Below W3.heap.size W3 (W3.alloc (.cells #[.slice B i cb, .slice A3 (b.length - i) c3] 22)) := (Below.refl _ _).alloc (Nat.le_refl _) _
    refine Q.ev_keep hb' HBa.out.size ?_
    obtain ⟨W11, hWn⟩ : ∃ W', W3.alloc (.cells #[.slice B i cb, .slice A3 (b.length - i) c3] 22) = W' := ⟨_, rfl⟩
    obtain ⟨g11, hgn⟩ : ∃ g, W3.heap.size = g := ⟨_, rfl⟩
    rw [hWn] at hr hb' ⊢
    have HBn := Lib.hid hb'
    rw [hgn] at hr ⊢
    have HR11 := Lib.hid hr
    clear hr hb' hWn hgn
    have HCx11 := Lib.hid (Kd.C_below HCx.out HBn.out)
    have HAa11 := Lib.hid (Kd.C_below HAa.out HBn.out)
    have HBb11 := Lib.hid (Kd.C_below HBb.out HBn.out)
    have HBa11 := Lib.hid (HBa.out.trans (HBn.out.mono HBa.out.size))
    clear HBn
    refine wpQuiet_nil ?_
    go_wp2_with fail
    have hr := RB_one 22 HBb11.out Hb.out HCb.out
    have hb' : Below W11.heap.size W11 (W11.alloc (.cells #[.slice B b.length cb] 22)) := (Below.refl _ _).alloc (Nat.le_refl _) _
    refine Q.ev_keep hb' HBa11.out.size ?_
    obtain ⟨W12, hWn⟩ : ∃ W', W11.alloc (.cells #[.slice B b.length cb] 22) = W' := ⟨_, rfl⟩
    obtain ⟨g12, hgn⟩ : ∃ g, W11.heap.size = g := ⟨_, rfl⟩
    rw [hWn] at hr hb' ⊢
    have HBn := Lib.hid hb'
    rw [hgn] at hr ⊢
    have HR12 := Lib.hid hr
    clear hr hb' hWn hgn
    have HCx12 := Lib.hid (Kd.C_below HCx11.out HBn.out)
    have HAa12 := Lib.hid (Kd.C_below HAa11.out HBn.out)
    have HBb12 := Lib.hid (Kd.C_below HBb11.out HBn.out)
    have RB2_12 := Lib.hid (HR11.out.below HBn.out)
    have HBa12 := Lib.hid (HBa11.out.trans (HBn.out.mono HBa11.out.size))
    clear HBn
    refine wpQuiet_nil ?_
    have hq := mark_any x [b] A2 (some ⟨g12, 0, none⟩) c2 1 W12 HCx12.out Hc2.out Hx8.out (by have := Hxl.out; omega) HR12.out (by simp) (by have := HL.out; simp; omega)
    rw [show ([b] : List (List Nat)).flatten = b from by simp, HMe.out] at hq
    have HQ := Lib.hid hq
    clear hq
    go_wp2_with (go_at_call 33; refine HQ.out.mono ?_; rintro e W13 ⟨rfl, hbn⟩; (have HBn := Lib.hid hbn); clear hbn)
    clear HQ
    refine Q.ev_keep HBn.out HBa12.out.size ?_
    have HCx13 := Lib.hid (Kd.C_below HCx12.out HBn.out)
    have HAa13 := Lib.hid (Kd.C_below HAa12.out HBn.out)
    have HBb13 := Lib.hid (Kd.C_below HBb12.out HBn.out)
    have RB1_13 := Lib.hid (HR12.out.below HBn.out)
    have RB2_13 := Lib.hid (RB2_12.out.below HBn.out)
    have HBa13 := Lib.hid (HBa12.out.trans (HBn.out.mono HBa12.out.size))
    clear HBn
    refine wpQuiet_nil ?_
    have hq := mark_any key [b.take i, b.drop i] A (some ⟨g11, 0, none⟩) ca 2 W13 HAa13.out HCa.out Ha.out (by have := HL.out; omega) RB2_13.out (by simp) (by have := HL.out; rw [take_drop_flat]; omega)
    rw [take_drop_flat, HZ.out] at hq
    have HQ := Lib.hid hq
    clear hq
    go_wp2_with (go_at_call 33; refine HQ.out.mono ?_; rintro e W14 ⟨rfl, hbn⟩; (have HBn := Lib.hid hbn); clear hbn)
    clear HQ
    refine Q.ev_keep HBn.out HBa13.out.size ?_
    have HCx14 := Lib.hid (Kd.C_below HCx13.out HBn.out)
    have HAa14 := Lib.hid (Kd.C_below HAa13.out HBn.out)
    have HBb14 := Lib.hid (Kd.C_below HBb13.out HBn.out)
    have RB1_14 := Lib.hid (RB1_13.out.below HBn.out)
    have RB2_14 := Lib.hid (RB2_13.out.below HBn.out)
    have HBa14 := Lib.hid (HBa13.out.trans (HBn.out.mono HBa13.out.size))
    clear HBn
    have heq := eq_sum Z Z HZl.out HZl.out
    repeat (go_big_quiet_step (fail))
    refine wpQuiet_nil ?_
    refine NoPanic.normal ?_
    go_wp2_with fail
    go_ret
    exact ⟨rfl, HBa14.out⟩
theorem keys_walk (key : List Int) (A : Option Addr) (ca : Nat) (b : List Int) (B : Option Addr) (cb : Nat) (n at' : Int) (w : World) (hA : (Kd.int .u8).C w A key.length key) (hca : key.length ≤ ca) (ha : ∀ x ∈ key, 0 ≤ x ∧ x < 256) (hB : (Kd.int .u8).C w B b.length b) (hcb : b.length ≤ cb) (hb : ∀ x ∈ b, 0 ≤ x ∧ x < 256) :
    Calls Try.prog 13 #[.slice A key.length ca, .slice B b.length cb, .int .i64 n, .int .i64 at'] w fun e w' => e = .returned (.bool true) ∧ Below w.heap.size w w' := by
  obtain ⟨m1, e1, k1, l1, _⟩ := C_nat (m := 256) hA ha
  obtain ⟨m2, e2, k2, l2, _⟩ := C_nat (m := 256) hB hb
  rw [← e1, ← e2]
  exact keys_nat m1 m2 A B ca cb n at' w k1 (by omega) l1 k2 (by omega) l2
end Go.Proofs.Ytagfplcafeblbaa.Mc
