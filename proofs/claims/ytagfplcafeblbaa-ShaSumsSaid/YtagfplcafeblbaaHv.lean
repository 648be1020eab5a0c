/-
  sha: the document's Of, a zero Sha's sum, and the law of sums.
-/
import Derived.Test.YtagfplcafeblbaaHz
import Derived.Test.YtagfplcafeblbaaHl
namespace Go.Proofs.Ytagfplcafeblbaa.H
open Go.RowKit Go.Proofs.Ytagfplcafeblbaa.L Go.Proofs.Ytagfplcafeblbaa.N Go.Proofs.YtagfplcafeblbaaW.PrintWords

set_option maxRecDepth 100000 in
set_option maxHeartbeats 1600000 in
theorem rof_any (l : List Nat) (A : Option Addr) (c : Nat) (w : World) (hl : l.length ≤ 1000000) (hC : (Kd.int .u8).C w A l.length (nat l)) (h8 : ∀ x ∈ l, x < 256) :
    Calls Try.prog 19 #[.slice A l.length c] w fun e w' => ∃ v, e = .returned v ∧ (Kd.int .u8).R 5 w' w.heap.size (fun _ => True) v (nat (shaN l)) ∧ Below w.heap.size w w' := by
  have HC := Lib.hid hC
  have HL := Lib.hid hl
  have H8 := Lib.hid h8
  have HQ := Lib.hid (consts_any w)
  clear hC hl h8
  go_enter Try.func19, Try.ntmps19
  go_wp2_with fail
  refine HQ.out.mono ?_
  rintro e w2 ⟨v1, v2, rfl, hk, hs, hb⟩
  obtain ⟨A1, c1, hv1, hc1, hC1⟩ := Kd.R_reads hk
  obtain ⟨A2, c2, hv2, hc2, hC2⟩ := Kd.R_reads hs
  have hv1' : v1 = .slice A1 64 c1 := hv1
  have hv2' : v2 = .slice A2 8 c2 := hv2
  subst hv1'
  subst hv2'
  have HK := Lib.hid (show (Kd.int .u32).C w2 A1 64 (nat kN) from hC1)
  have HS := Lib.hid (show (Kd.int .u32).C w2 A2 8 (nat begN) from hC2)
  have HB := Lib.hid hb
  have HQ2 := Lib.hid (rwith_any l A A1 A2 c c1 c2 w2 HL.out (Kd.C_below HC.out HB.out) H8.out HK.out HS.out)
  clear hk hs hb hv1 hv2 hc1 hc2 hC1 hC2 HQ
  go_wp2_with fail
  refine HQ2.out.mono ?_
  rintro e w3 ⟨v3, rfl, hr3, hb3⟩
  have HR3 := Lib.hid (Kd.R_lower hr3 HB.out.size)
  have HB3 := Lib.hid (HB.out.trans (hb3.mono HB.out.size))
  clear hr3 hb3 HQ2
  go_wp2_with fail
  go_ret
  exact ⟨_, rfl, HR3.out, HB3.out⟩
set_option maxRecDepth 100000 in
set_option maxHeartbeats 800000 in
theorem sum_zero (b : Nat) (s : List Nat) (v : Value) (n : Nat) (w : World) (h : SG b s v n false w) : Calls Try.prog 17 #[.pointer (some ⟨b, 0, none⟩)] w fun e w' => e = .returned (.tuple #[.agg (arr .u8 z32), .int .i64 6]) ∧ Below w.heap.size w w' := by
  have HX := Lib.hid h
  have hlt := h.lt
  have hb1 : b < w.heap.size + 1 := Nat.lt_succ_of_lt hlt
  have c10 := h.c10
  clear h
  go_enter Try.func17, Try.ntmps17
  go_upto_region 2 with (fail)
  refine wp_at fun W hW => ?_
  obtain ⟨h2, h4, hb, hsz⟩ := two_ab (k := .u8) (k' := .u8) z32 z32 hW
  have H2 := Lib.hid h2
  have H4 := Lib.hid h4
  have HB := Lib.hid hb
  have HSz := Lib.hid hsz
  have c10' := (HX.out.below hb).c10
  clear hW h2 h4 hb hsz c10 hb1 hlt
  go_wp2_with (first
    | (refine load_ab .u8 (w.heap.size + 1) z32 rfl rfl rfl H4.out Try.underlying29 info_sum ?_)
    | (refine store_ab .u8 w.heap.size z32 z32 rfl rfl rfl rfl rfl H2.out info_sum rfl ?_; intro W2 hs2 hg2; (have HS2 := Lib.hid hs2); (have HG2 := Lib.hid hg2); clear hs2 hg2))
  have hl := HS2.out.load (P := Try.prog) Try.underlying29 info_sum
  have hb2 := below_grown HB.out (by rw [HSz.out]; omega) HG2.out (Nat.le_refl _)
  exact bodyPost_ret (v := .tuple #[.agg (arr .u8 z32), .int .i64 6]) (by simp [results, Try.results17, hl, asAddr]) rfl ⟨rfl, hb2⟩
theorem strK {A : Option Addr} {n c : Nat} {l : List Nat} {w : World} (hn : l.length = n) (h : (Kd.int .u8).C w A n (nat l)) : (convert 22 9 (.slice A n c)).run Try.prog w = .ok (.string (strOfNums (nat l))) w := by
  have h2 : (Kd.int .u8).C w A (nat l).length (nat l) := by rw [nat_length, hn]; exact h
  have := Kd.C_string (P := Try.prog) (src := 22) (dst := 9) (e := 5) (c := c) Try.underlying22 Try.underlying5 Try.underlying9 h2
  rwa [nat_length, hn] at this
theorem sum_whole (b : Nat) (W : World) : (Instr.sliceAt 29 (.pointer (some ⟨b, 0, none⟩)) none none none).run Try.prog W = .ok (.slice (some ⟨b, 0, none⟩) 32 32) W := by kernel_rfl
set_option maxRecDepth 100000 in
set_option maxHeartbeats 6400000 in
theorem sums_nat (l : List Nat) (A : Option Addr) (c : Nat) (w : World) (hC : (Kd.int .u8).C w A l.length (nat l)) (hc : l.length ≤ c) (hl8 : ∀ x ∈ l, x < 256) :
    Calls Try.prog 3 #[.slice A l.length c] w fun e w' => e = .returned (.bool true) ∧ Below w.heap.size w w' := by
  by_cases hg0 : 300 < l.length
  · have HAl := Lib.hid (alive_any w)
    have tg_l : decide ((300 : Int) < (l.length : Int)) = true := decide_eq_true (by omega)
    clear hC hc hl8 hg0
    go_enter Try.func3, Try.ntmps3
    go_wp2_with fail
    refine HAl.out.mono ?_
    rintro e w1 ⟨rfl, hb⟩
    go_wp2_with fail
    go_ret
    exact ⟨rfl, hb⟩
  have tg_l : decide ((300 : Int) < (l.length : Int)) = false := decide_eq_false (by omega)
  have HC := Lib.hid hC
  have Hc := Lib.hid hc
  have H8 := Lib.hid hl8
  have HL := Lib.hid (show l.length ≤ 300 from by omega)
  have z1 : (l.length : Int) ≤ 300 := by omega
  obtain ⟨R, hR⟩ : ∃ R, shaN l = R := ⟨_, rfl⟩
  have HRl := Lib.hid (show R.length = 32 from by rw [← hR]; exact shaN_length l)
  have HRr := Lib.hid hR
  have HRe := Lib.hid (show shaN ([l] : List (List Nat)).flatten = R from by rw [← hR]; simp)
  clear hC hc hl8 hg0 hR
  go_enter Try.func3, Try.ntmps3
  go_wp2_with fail
  refine (new_any w).mono ?_
  rintro e w1 ⟨b1, rfl, hbW, hsh, hb1⟩
  have HB1 := Lib.hid hb1
  have HSh := Lib.hid hsh
  have HLt := Lib.hid hbW
  clear hbW hsh hb1
  have hq := add_any b1 [] l A c w1 HSh.out (Kd.C_below HC.out HB1.out) H8.out (by have := HL.out; simp; omega) (by have := HL.out; omega)
  rw [List.nil_append] at hq
  have HQ := Lib.hid hq
  clear hq
  go_wp2_with fail
  refine HQ.out.mono ?_
  rintro e w2 ⟨rfl, hs2, hg2⟩
  have HS2 := Lib.hid hs2
  have HB2 := Lib.hid (below_grown HB1.out HB1.out.size hg2 HLt.out)
  clear hs2 hg2 HQ HSh HB1
  have hq := sum_any b1 l w2 HS2.out (by have := HL.out; omega)
  rw [HRr.out] at hq
  have HQ := Lib.hid hq
  clear hq
  go_wp2_with fail
  refine HQ.out.mono ?_
  rintro e w3 ⟨rfl, hb3⟩
  have HB3 := Lib.hid (HB2.out.trans (hb3.mono HB2.out.size))
  have HS3 := Lib.hid (HS2.out.below hb3)
  clear hb3 HQ HS2 HB2
  go_wp2_with (refine store_ab .u8 w3.heap.size z32 R rfl rfl rfl rfl rfl (AB.mk w3 .u8 tSum z32) (by rw [HRl.out]; exact info_sum) (by rw [HRl.out]; rfl) ?_; intro W4 h5 hg5; (have H6 := Lib.hid h5); (have HG5 := Lib.hid hg5); clear h5 hg5)
  obtain ⟨hb4, hs4⟩ := below_new HG5.out
  have HS4 := Lib.hid (HS3.out.below hb4)
  have HB4 := Lib.hid (HB3.out.trans (hb4.mono HB3.out.size))
  obtain ⟨b6, hb6⟩ : ∃ b, w3.heap.size = b := ⟨_, rfl⟩
  rw [hb6] at H6 ⊢
  clear hb4 hs4 HG5 HB3 HS3 hb6
  refine calls_at fun W5 hW5 => ?_
  have hb5 : Below W4.heap.size W4 W5 := by rw [hW5]; exact (Below.refl _ _).alloc (Nat.le_refl _) _
  have hrb := RB_one (l := l) (A := A) (c := c) 22 (w := W4) (Kd.C_below HC.out HB4.out) H8.out Hc.out
  rw [← hW5] at hrb
  have hq := of_any [l] (some ⟨W4.heap.size, 0, none⟩) 1 W5 hrb (by simp) (by have := HL.out; simp; omega) (by intro y hy; rw [List.mem_singleton] at hy; subst hy; have := HL.out; omega)
  rw [HRe.out] at hq
  have HQ := Lib.hid hq
  have HB5 := Lib.hid (HB4.out.trans (hb5.mono HB4.out.size))
  have HS5 := Lib.hid (HS4.out.below hb5)
  have H65 := Lib.hid (H6.out.below H6.out.lt hb5)
  clear hW5 hb5 hrb hq HS4 HB4 H6
  refine HQ.out.mono ?_
  rintro e w6 ⟨rfl, hb6⟩
  have HB6 := Lib.hid (HB5.out.trans (hb6.mono HB5.out.size))
  have HS6 := Lib.hid (HS5.out.below hb6)
  have H66 := Lib.hid (H65.out.below H65.out.lt hb6)
  clear hb6 HQ HS5 HB5 H65
  go_upto_region 7 with (refine store_ab .u8 w6.heap.size z32 R rfl rfl rfl rfl rfl (AB.mk w6 .u8 tSum z32) (by rw [HRl.out]; exact info_sum) (by rw [HRl.out]; rfl) ?_; intro W7 h5 hg5; (have H7 := Lib.hid h5); (have HG5 := Lib.hid hg5); clear h5 hg5)
  obtain ⟨hb7, hs7⟩ := below_new HG5.out
  have HS7 := Lib.hid (HS6.out.below hb7)
  have HB7 := Lib.hid (HB6.out.trans (hb7.mono HB6.out.size))
  have H67 := Lib.hid (H66.out.below H66.out.lt hb7)
  obtain ⟨b7, hb7e⟩ : ∃ b, w6.heap.size = b := ⟨_, rfl⟩
  rw [hb7e] at H7 ⊢
  clear hb7 hs7 HG5 HB6 HS6 H66 hb7e
  go_upto_region 9 with (fail)
  refine wp_at fun W8 hW8 => ?_
  have hb8 : Below W7.heap.size W7 W8 := by rw [hW8]; exact (Below.refl _ _).alloc (Nat.le_refl _) _
  obtain ⟨bz, hbz⟩ : ∃ b, W7.heap.size = b := ⟨_, rfl⟩
  have HZ8 := Lib.hid (show SG bz (List.replicate 8 0) (.slice none 0 0) 0 false W8 from ⟨by rw [hW8, ← hbz]; exact heap_alloc_new W7 _, rfl⟩)
  have HS8 := Lib.hid (HS7.out.below hb8)
  have HB8 := Lib.hid (HB7.out.trans (hb8.mono HB7.out.size))
  have H68 := Lib.hid (H67.out.below H67.out.lt hb8)
  have H78 := Lib.hid (H7.out.below H7.out.lt hb8)
  try rw [hbz]
  clear hW8 hb8 HS7 HB7 H67 H7 hbz
  go_wp2_with fail
  refine (sum_nil W8).mono ?_
  rintro e w9 ⟨rfl, hb9⟩
  have HZ9 := Lib.hid (HZ8.out.below hb9)
  have HS9 := Lib.hid (HS8.out.below hb9)
  have HB9 := Lib.hid (HB8.out.trans (hb9.mono HB8.out.size))
  have H69 := Lib.hid (H68.out.below H68.out.lt hb9)
  have H79 := Lib.hid (H78.out.below H78.out.lt hb9)
  clear hb9 HZ8 HS8 HB8 H68 H78
  go_upto_region 10 with (refine store_ab .u8 w9.heap.size z32 z32 rfl rfl rfl rfl rfl (AB.mk w9 .u8 tSum z32) (by exact info_sum) rfl ?_; intro W10 h5 hg5; (have HG5 := Lib.hid hg5); clear h5 hg5)
  obtain ⟨hb9, _⟩ := below_new HG5.out
  have HZa := Lib.hid (HZ9.out.below hb9)
  have HSa := Lib.hid (HS9.out.below hb9)
  have HBa := Lib.hid (HB9.out.trans (hb9.mono HB9.out.size))
  have H6a := Lib.hid (H69.out.below H69.out.lt hb9)
  have H7a := Lib.hid (H79.out.below H79.out.lt hb9)
  clear hb9 HZ9 HS9 HB9 H69 H79 HG5
  have HQ := Lib.hid (sum_zero bz _ _ _ W10 HZa.out)
  go_wp2_with fail
  refine HQ.out.mono ?_
  rintro e w11 ⟨rfl, hb9⟩
  have HZb := Lib.hid (HZa.out.below hb9)
  have HSb := Lib.hid (HSa.out.below hb9)
  have HBb := Lib.hid (HBa.out.trans (hb9.mono HBa.out.size))
  have H6b := Lib.hid (H6a.out.below H6a.out.lt hb9)
  have H7b := Lib.hid (H7a.out.below H7a.out.lt hb9)
  clear hb9 HZa HSa HBa H6a H7a HQ
  go_upto_region 11 with (refine store_ab .u8 w11.heap.size z32 z32 rfl rfl rfl rfl rfl (AB.mk w11 .u8 tSum z32) (by exact info_sum) rfl ?_; intro W12 h5 hg5; (have HG5 := Lib.hid hg5); clear h5 hg5)
  obtain ⟨hb9, _⟩ := below_new HG5.out
  have HZ := Lib.hid (HZb.out.below hb9)
  have HS := Lib.hid (HSb.out.below hb9)
  have HB := Lib.hid (HBb.out.trans (hb9.mono HBb.out.size))
  have H6 := Lib.hid (H6b.out.below H6b.out.lt hb9)
  have H7 := Lib.hid (H7b.out.below H7b.out.lt hb9)
  clear hb9 HZb HSb HBb H6b H7b HG5
  have heq := eq_sum R R HRl.out HRl.out
  have hwh := sum_whole b6
  refine Q.wp_region_segs none [([], some 0), ([1, 2, 3, 4, 5, 6, 7, 8, 9, 10, 11, 12, 13, 14, 15, 16, 17], some 18), ([19, 20, 21, 22, 23, 25, 26], some 24), ([27, 28, 29, 30, 31, 32, 33, 34, 35, 36, 37, 38, 39], some 40), ([41, 42, 43, 44], some 45), ([46, 47, 48, 49], some 50), ([], some 51), ([52, 53, 54, 55], none)] (by kernel_rfl) (by kernel_rfl) (by kernel_rfl) (by kernel_rfl) ?_
  dsimp only [Q.wpSegs, Q.picks, Q.pick]
  refine wpQuiet_nil ?_
  go_wp2_with fail
  refine (alive_any _).mono ?_
  rintro e w13 ⟨rfl, hb13⟩
  have hbd : Below W12.heap.size W12 w13 := (stay0 W12).trans hb13
  have HZd := Lib.hid (HZ.out.below hbd)
  have HSd := Lib.hid (HS.out.below hbd)
  have HBd := Lib.hid (HB.out.trans (hbd.mono HB.out.size))
  have H6d := Lib.hid (H6.out.below H6.out.lt hbd)
  have H7d := Lib.hid (H7.out.below H7.out.lt hbd)
  have Hev := Lib.hid hb13
  clear hbd hb13 HZ HS HB H6 H7
  go_wp2_with fail
  refine Q.ev_done Hev.out (Nat.le_refl _) ?_
  have q1 : ∀ x : Q.GW w13 w13.heap.size none, (convert 22 9 (.slice (some ⟨b6, 0, none⟩) 32 32)).run Try.prog x.w = .ok (.string (strOfNums (nat R))) x.w := fun x => strK HRl.out (by have := rowK (H6d.out.below H6d.out.lt x.below) (show R.length ≤ maxLen by rw [HRl.out]; decide); rwa [HRl.out] at this)
  repeat (go_big_quiet_step (fail))
  refine quiet_loadG 29 (.tmp 5) (.pointer (some ⟨b6, 0, none⟩)) (.agg (arr .u8 R)) rfl rfl rfl (H6d.out.loadQ Try.underlying29 (by rw [HRl.out]; exact info_sum)) ?_
  go_simp
  refine quiet_loadG 29 (.tmp 7) (.pointer (some ⟨b7, 0, none⟩)) (.agg (arr .u8 R)) rfl rfl rfl (H7d.out.loadQ Try.underlying29 (by rw [HRl.out]; exact info_sum)) ?_
  go_simp
  repeat (go_big_quiet_step (fail))
  refine wpQuiet_nil ?_
  clear q1 heq hwh
  have hq := rof_any l A c w13 (by have := HL.out; omega) (Kd.C_below HC.out HBd.out) H8.out
  rw [HRr.out] at hq
  have HQ := Lib.hid hq
  clear hq
  go_wp2_with fail
  refine HQ.out.mono ?_
  rintro e w14 ⟨v14, rfl, hr14, hb14⟩
  obtain ⟨A14, c14, hv14, hc14, hC14⟩ := Kd.R_reads hr14
  rw [nat_length, HRl.out] at hv14 hC14
  subst hv14
  have HC14 := Lib.hid hC14
  have Hev14 := Lib.hid hb14
  have HZe := Lib.hid (HZd.out.below hb14)
  have HSe := Lib.hid (HSd.out.below hb14)
  have HBe := Lib.hid (HBd.out.trans (hb14.mono HBd.out.size))
  clear hr14 hb14 hc14 hC14 HZd HSd HBd H6d H7d HQ
  go_wp2_with fail
  refine Q.ev_done Hev14.out (Nat.le_refl _) ?_
  have q2 : ∀ x : Q.GW w14 w14.heap.size none, (convert 22 9 (.slice A14 32 c14)).run Try.prog x.w = .ok (.string (strOfNums (nat R))) x.w := fun x => strK HRl.out (Kd.C_below HC14.out x.below)
  repeat (go_big_quiet_step (fail))
  refine wpQuiet_nil ?_
  clear q2
  have HQ := Lib.hid (len_any b1 l w14 HSe.out)
  go_wp2_with fail
  refine HQ.out.mono ?_
  rintro e w15 ⟨rfl, hw⟩
  rw [hw]
  clear hw w15 HQ
  go_wp2_with fail
  refine Q.ev_keep (Below.refl _ _) (Nat.le_refl _) ?_
  repeat (go_big_quiet_step (fail))
  refine wpQuiet_nil ?_
  go_wp2_with fail
  refine (add_nil _ _).mono ?_
  rintro e w15 ⟨rfl, hw⟩
  rw [hw]
  clear hw w15
  go_wp2_with fail
  refine Q.ev_keep (Below.refl _ _) (Nat.le_refl _) ?_
  repeat (go_big_quiet_step (fail))
  refine wpQuiet_nil ?_
  have HQ := Lib.hid (fun u => add_zero bz _ _ u _ w14 HZe.out)
  go_wp2_with fail
  refine (HQ.out _).mono ?_
  rintro e w15 ⟨rfl, hw⟩
  rw [hw]
  clear hw w15 HQ
  go_wp2_with fail
  refine Q.ev_keep (Below.refl _ _) (Nat.le_refl _) ?_
  repeat (go_big_quiet_step (fail))
  refine wpQuiet_nil ?_
  go_wp2_with fail
  refine (len_nil _).mono ?_
  rintro e w15 ⟨rfl, hw⟩
  rw [hw]
  clear hw w15
  go_wp2_with fail
  refine Q.ev_keep (Below.refl _ _) (Nat.le_refl _) ?_
  refine wpQuiet_nil ?_
  have HQ := Lib.hid (len_zero bz _ _ _ w14 HZe.out)
  go_wp2_with fail
  refine HQ.out.mono ?_
  rintro e w15 ⟨rfl, hw⟩
  rw [hw]
  clear hw w15 HQ
  go_wp2_with fail
  refine Q.ev_keep (Below.refl _ _) (Nat.le_refl _) ?_
  repeat (go_big_quiet_step (fail))
  refine wpQuiet_nil ?_
  refine NoPanic.normal ?_
  go_wp2_with fail
  go_ret
  exact ⟨rfl, HBe.out⟩
theorem sums_walk (l : List Int) (A : Option Addr) (c : Nat) (w : World) (hC : (Kd.int .u8).C w A l.length l) (hc : l.length ≤ c) (h : ∀ x ∈ l, 0 ≤ x ∧ x < 256) :
    Calls Try.prog 3 #[.slice A l.length c] w fun e w' => e = .returned (.bool true) ∧ Below w.heap.size w w' := by
  obtain ⟨m1, e1, k1, l1, _⟩ := C_nat (m := 256) hC h
  rw [← e1]
  exact sums_nat m1 A c w k1 (by omega) l1
end Go.Proofs.Ytagfplcafeblbaa.H
