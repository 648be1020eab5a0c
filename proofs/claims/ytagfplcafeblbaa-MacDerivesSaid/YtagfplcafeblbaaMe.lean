/-
  mac: what must come of fixed calls.
-/
import Derived.Test.YtagfplcafeblbaaMd
namespace Go.Proofs.Ytagfplcafeblbaa.Mc
open Go.RowKit Go.Proofs.Ytagfplcafeblbaa.L Go.Proofs.Ytagfplcafeblbaa.N Go.Proofs.Ytagfplcafeblbaa.H Go.Proofs.YtagfplcafeblbaaW.PrintWords

theorem eq_key (l m : List Nat) (hl : l.length = 16) (hm : m.length = 16) (W : World) : (Op.equalIn 10000 tKey (.agg (arr .u8 l)) (.agg (arr .u8 m))).run Try.prog W = .ok (decide (l = m)) W :=
  eq_arr' Try.underlying74 Try.underlying5 info_u8s (by kernel_rfl) .u8 l m hl hm W
theorem drv_ne : drvN [115] [108] 1 ≠ z16 := by decide +kernel
theorem right_self {key b : List Nat} {n : Nat} (h8 : 8 ≤ n) (h32 : n ≤ 32) : rightN key ((markN key b).take n) b = true := by
  have hl : ((markN key b).take n).length = n := by rw [List.length_take, markN_len]; omega
  exact decide_eq_true ⟨by omega, by omega, by rw [hl]⟩
theorem right_short {key m b : List Nat} (h : m.length < 8) : rightN key m b = false := decide_eq_false (by omega)
theorem lit_right {W7 W8 : World} {b1 n : Nat} {Z : List Nat} (hW8 : W8 = ((W7.alloc (.cells (arr .u8 [107]) 5 (1, 2))).alloc (.cells (arr .u8 [116, 101, 120, 116]) 5 (4, 5))).alloc (.cells #[.slice (some ⟨W7.heap.size + 1, 0, none⟩) 4 4] 22)) (hn : n ≤ 32) (h : AB .u8 tSum b1 Z W7) (hZ : Z.length = 32) (hZt : ∀ x ∈ Z, x < 256) :
    Calls Try.prog 36 #[.slice (some ⟨W7.heap.size, 0, none⟩) 1 1, .slice (some ⟨b1, 0, none⟩) n 32, .slice (some ⟨W7.heap.size + 1 + 1, 0, none⟩) 1 1] W8 (fun e w' => e = .returned (.bool (rightN [107] (Z.take n) [116, 101, 120, 116])) ∧ Below W8.heap.size W8 w') ∧ Below W7.heap.size W7 W8 := by
  have e1 := alloc_size W7 (.cells (arr .u8 [107]) 5 (1, 2))
  have e2 := alloc_size (W7.alloc (.cells (arr .u8 [107]) 5 (1, 2))) (.cells (arr .u8 [116, 101, 120, 116]) 5 (4, 5))
  rw [e1] at e2
  have c0 := C_lit [107] W7 (1, 2) (by decide)
  have c1 := C_lit [116, 101, 120, 116] (W7.alloc (.cells (arr .u8 [107]) 5 (1, 2))) (4, 5) (by decide)
  rw [e1] at c1
  have hb : Below W7.heap.size W7 W8 := hW8 ▸ (((Below.refl _ _).alloc (Nat.le_refl _) _).alloc (by rw [alloc_size]; omega) _).alloc (by rw [alloc_size, alloc_size]; omega) _
  have hk : (Kd.int .u8).C W8 (some ⟨W7.heap.size, 0, none⟩) ([107] : List Nat).length (nat [107]) := hW8 ▸ Kd.C_alloc (Kd.C_alloc c0 _) _
  have hrb : RB W8 (some ⟨W7.heap.size + 1 + 1, 0, none⟩) [[116, 101, 120, 116]] := by
    rw [hW8, ← e2]
    exact RB_one 22 c1 (by decide) (Nat.le_refl _)
  have hr := h.row (by rw [hZ]; decide)
  rw [hZ] at hr
  have hct := Kd.C_take (m := n) (show (Kd.int .u8).C W7 (some ⟨b1, 0, none⟩) (nat Z).length (nat Z) from by rw [nat_length, hZ]; exact hr) (by rw [nat_length, hZ]; exact hn)
  rw [← nat_take, nat_length] at hct
  have htl : (Z.take n).length = n := by rw [List.length_take, hZ]; omega
  have hq := right_any [107] (Z.take n) [[116, 101, 120, 116]] (some ⟨W7.heap.size, 0, none⟩) (some ⟨b1, 0, none⟩) _ 1 32 1 W8 hk (Nat.le_refl _) (by decide) (by decide) (Kd.C_below hct hb) (take_lt _ hZt) hrb (by decide) (by decide)
  rw [htl] at hq
  exact ⟨hq, hb⟩
set_option maxRecDepth 100000 in
set_option maxHeartbeats 3200000 in
theorem alive_any (w : World) : Calls Try.prog 32 #[] w fun e w' => e = .returned (.bool true) ∧ Below w.heap.size w w' := by
  go_enter Try.func32, Try.ntmps32
  go_wp2_with fail
  rw [cv_at]
  case hg => simp
  go_wp2_with fail
  rw [cv_at]
  case hg => simp
  go_wp2_with fail
  rw [cv_at]
  case hg => simp
  go_wp2_with fail
  refine calls_at fun W hW => ?_
  have e1 := alloc_size w (.cells (arr .u8 [107]) 5 (1, 2))
  have e2 := alloc_size (w.alloc (.cells (arr .u8 [107]) 5 (1, 2))) (.cells (arr .u8 [116, 101]) 5 (2, 3))
  have e3 := alloc_size ((w.alloc (.cells (arr .u8 [107]) 5 (1, 2))).alloc (.cells (arr .u8 [116, 101]) 5 (2, 3))) (.cells (arr .u8 [120, 116]) 5 (2, 3))
  rw [e1] at e2
  rw [e2] at e3
  have c0 := C_lit [107] w (1, 2) (by decide)
  have c1 := C_lit [116, 101] (w.alloc (.cells (arr .u8 [107]) 5 (1, 2))) (2, 3) (by decide)
  have c2 := C_lit [120, 116] ((w.alloc (.cells (arr .u8 [107]) 5 (1, 2))).alloc (.cells (arr .u8 [116, 101]) 5 (2, 3))) (2, 3) (by decide)
  rw [e1] at c1
  rw [e2] at c2
  have hb : Below w.heap.size w W := hW ▸ ((((Below.refl _ _).alloc (Nat.le_refl _) _).alloc (by rw [alloc_size]; omega) _).alloc (by rw [alloc_size, alloc_size]; omega) _).alloc (by rw [alloc_size, alloc_size, alloc_size]; omega) _
  have hk : (Kd.int .u8).C W (some ⟨w.heap.size, 0, none⟩) ([107] : List Nat).length (nat [107]) := hW ▸ Kd.C_alloc (Kd.C_alloc (Kd.C_alloc c0 _) _) _
  have hrb : RB W (some ⟨w.heap.size + 1 + 1 + 1, 0, none⟩) [[116, 101], [120, 116]] := by
    rw [hW, ← e3]
    refine RB_blk (heap_alloc_new _ _) (fun j hj => ?_)
    have h2 : j = 0 ∨ j = 1 := by simp at hj; omega
    rcases h2 with rfl | rfl
    · exact ⟨_, _, rfl, Kd.C_alloc (Kd.C_alloc c1 _) _, by decide, Nat.le_refl _⟩
    · exact ⟨_, _, rfl, Kd.C_alloc c2 _, by decide, Nat.le_refl _⟩
  have HQ := Lib.hid (mark_any [107] [[116, 101], [120, 116]] _ _ 1 2 W hk (Nat.le_refl _) (by decide) (by decide) hrb (by decide) (by decide))
  rw [show ([[116, 101], [120, 116]] : List (List Nat)).flatten = [116, 101, 120, 116] from rfl] at HQ
  have HB := Lib.hid hb
  clear hW e1 e2 e3 c0 c1 c2 hb hk hrb
  obtain ⟨Z, hZ⟩ : ∃ Z, markN [107] [116, 101, 120, 116] = Z := ⟨_, rfl⟩
  have hZl := markN_len [107] [116, 101, 120, 116]
  have hZt := markN_lt [107] [116, 101, 120, 116]
  rw [hZ] at HQ hZl hZt
  have HZl := Lib.hid hZl
  have HZt := Lib.hid hZt
  have HZe := Lib.hid hZ
  clear hZ hZl hZt
  refine HQ.out.mono ?_
  rintro e W1 ⟨rfl, hb1⟩
  have HB1 := Lib.hid (HB.out.trans (hb1.mono HB.out.size))
  clear hb1 HB HQ
  go_wp2_with (refine store_ab .u8 W1.heap.size z32 Z rfl rfl rfl rfl rfl (AB.mk W1 .u8 tSum z32) (by rw [HZl.out]; exact info_sum) (by rw [HZl.out]; rfl) ?_; intro W2 h2 hg2; (have H2 := Lib.hid h2); (have HG2 := Lib.hid hg2); clear h2 hg2)
  obtain ⟨hb2, hs2⟩ := below_new HG2.out
  have HB2 := Lib.hid (HB1.out.trans (hb2.mono HB1.out.size))
  clear hb2 hs2 HG2 HB1
  generalize W1.heap.size = b1 at *
  rw [cv_at]
  case hg => simp
  go_wp2_with fail
  refine calls_at fun W3 hW3 => ?_
  have hb3 : Below W2.heap.size W2 W3 := hW3 ▸ (Below.refl _ _).alloc (Nat.le_refl _) _
  have hk : (Kd.int .u8).C W3 (some ⟨W2.heap.size, 0, none⟩) ([115] : List Nat).length (nat [115]) := hW3 ▸ C_lit [115] W2 (1, 2) (by decide)
  have HQ := Lib.hid (derive_ok [115] _ 1 { data := #[108] } 1 W3 hk (Nat.le_refl _) (by decide) (by decide) (by decide) (by decide) (by decide))
  rw [show sbN { data := #[108] } = [108] from rfl] at HQ
  obtain ⟨K, hK⟩ : ∃ K, drvN [115] [108] 1 = K := ⟨_, rfl⟩
  have hKl := drvN_len [115] [108] 1
  have hKn := drv_ne
  rw [hK] at HQ hKl hKn
  have HKl := Lib.hid hKl
  have HKn := Lib.hid hKn
  have HB3 := Lib.hid (HB2.out.trans (hb3.mono HB2.out.size))
  have H3 := Lib.hid (H2.out.below H2.out.lt hb3)
  clear hW3 hb3 hk hK hKl hKn HB2 H2
  refine HQ.out.mono ?_
  rintro e W4 ⟨rfl, hb4⟩
  have HB4 := Lib.hid (HB3.out.trans (hb4.mono HB3.out.size))
  have H4 := Lib.hid (H3.out.below H3.out.lt hb4)
  clear hb4 HQ HB3 H3
  go_wp2_with (refine store_ab .u8 W4.heap.size z16 K rfl rfl rfl rfl rfl (AB.mk W4 .u8 tKey z16) (by rw [HKl.out]; exact info_key) (by rw [HKl.out]; rfl) ?_; intro W5 h5 hg5; (have K5 := Lib.hid h5); (have HG5 := Lib.hid hg5); clear h5 hg5)
  obtain ⟨hb5, hs5⟩ := below_new HG5.out
  have HB5 := Lib.hid (HB4.out.trans (hb5.mono HB4.out.size))
  have H5 := Lib.hid (H4.out.below H4.out.lt hb5)
  clear hb5 hs5 HG5 HB4 H4
  generalize W4.heap.size = b2 at *
  refine (derive_bad 0 none 0 { data := #[108] } 1 W5 (.inl rfl) (by decide)).mono ?_
  rintro e W6 ⟨rfl, hb6⟩
  have HB6 := Lib.hid (HB5.out.trans (hb6.mono HB5.out.size))
  have H6 := Lib.hid (H5.out.below H5.out.lt hb6)
  have K6 := Lib.hid (K5.out.below K5.out.lt hb6)
  clear hb6 HB5 H5 K5
  go_wp2_with (refine store_ab .u8 W6.heap.size z16 z16 rfl rfl rfl rfl rfl (AB.mk W6 .u8 tKey z16) (by exact info_key) rfl ?_; intro W7 h7 hg7; (have H7x := Lib.hid h7); (have HG7 := Lib.hid hg7); clear h7 hg7)
  obtain ⟨hb7, hs7⟩ := below_new HG7.out
  have HB7 := Lib.hid (HB6.out.trans (hb7.mono HB6.out.size))
  have H7 := Lib.hid (H6.out.below H6.out.lt hb7)
  have K7 := Lib.hid (K6.out.below K6.out.lt hb7)
  clear hb7 hs7 HG7 HB6 H6 K6 H7x
  rw [cv_at]
  case hg => simp
  go_wp2_with fail
  rw [cv_at]
  case hg => simp
  go_wp2_with fail
  refine calls_at fun W8 hW8 => ?_
  obtain ⟨hq, hb8⟩ := lit_right (n := 16) hW8 (by decide) H7.out HZl.out HZt.out
  rw [show rightN [107] (Z.take 16) [116, 101, 120, 116] = true from by rw [← HZe.out]; exact right_self (by decide) (by decide)] at hq
  have HQ := Lib.hid hq
  have HB8 := Lib.hid (HB7.out.trans (hb8.mono HB7.out.size))
  have H8 := Lib.hid (H7.out.below H7.out.lt hb8)
  have K8 := Lib.hid (K7.out.below K7.out.lt hb8)
  clear hq hb8 hW8 HB7 H7 K7
  refine HQ.out.mono ?_
  rintro e W9 ⟨rfl, hb9⟩
  have HB9 := Lib.hid (HB8.out.trans (hb9.mono HB8.out.size))
  have H9 := Lib.hid (H8.out.below H8.out.lt hb9)
  have K9 := Lib.hid (K8.out.below K8.out.lt hb9)
  clear hb9 HQ HB8 H8 K8
  go_wp2_with fail
  rw [cv_at]
  case hg => simp
  go_wp2_with fail
  rw [cv_at]
  case hg => simp
  go_wp2_with fail
  refine calls_at fun W10 hW10 => ?_
  obtain ⟨hq, hb10⟩ := lit_right (n := 7) hW10 (by decide) H9.out HZl.out HZt.out
  rw [show rightN [107] (Z.take 7) [116, 101, 120, 116] = false from right_short (by rw [List.length_take, HZl.out]; decide)] at hq
  have HQ := Lib.hid hq
  have HB10 := Lib.hid (HB9.out.trans (hb10.mono HB9.out.size))
  have K10 := Lib.hid (K9.out.below K9.out.lt hb10)
  clear hq hb10 hW10 HB9 H9 K9
  refine HQ.out.mono ?_
  rintro e W11 ⟨rfl, hb11⟩
  have HB11 := Lib.hid (HB10.out.trans (hb11.mono HB10.out.size))
  have K11 := Lib.hid (K10.out.below K10.out.lt hb11)
  clear hb11 HQ HB10 K10
  have heq : ∀ W : World, (Op.equalIn 10000 74 (.agg (arr .u8 K)) (.agg #[.int .u8 0, .int .u8 0, .int .u8 0, .int .u8 0, .int .u8 0, .int .u8 0, .int .u8 0, .int .u8 0, .int .u8 0, .int .u8 0, .int .u8 0, .int .u8 0, .int .u8 0, .int .u8 0, .int .u8 0, .int .u8 0])).run Try.prog W = .ok false W := fun W => by
    have := eq_key K z16 HKl.out rfl W
    rw [decide_eq_false HKn.out] at this
    exact this
  go_wp2_with (refine load_abG .u8 b2 K rfl rfl rfl K11.out Try.underlying74 (by rw [HKl.out]; exact info_key) ?_)
  refine calls_at fun W12 hW12 => ?_
  have e1 := alloc_size W11 (.cells (arr .u8 [1]) 5)
  have c1 := C_lit [1] W11 (0, 0) (by decide)
  have c2 := C_lit [2] (W11.alloc (.cells (arr .u8 [1]) 5)) (0, 0) (by decide)
  rw [e1] at c2
  have HQ := Lib.hid (equal_any [1] [2] (some ⟨W11.heap.size, 0, none⟩) (some ⟨W11.heap.size + 1, 0, none⟩) 1 1 W12 (hW12 ▸ Kd.C_alloc c1 _) (hW12 ▸ c2) (by decide) (by decide))
  have HB12 := Lib.hid (HB11.out.trans ((show Below W11.heap.size W11 W12 from hW12 ▸ ((Below.refl _ _).alloc (Nat.le_refl _) _).alloc (by rw [alloc_size]; omega) _).mono HB11.out.size))
  clear hW12 e1 c1 c2 heq HB11 K11
  refine HQ.out.mono ?_
  rintro e W13 ⟨rfl, hb13⟩
  have HB13 := Lib.hid (HB12.out.trans (hb13.mono HB12.out.size))
  clear hb13 HQ
  rw [show decide (([1] : List Nat) = [2]) = false from rfl]
  go_wp2_with fail
  go_ret
  exact ⟨rfl, HB13.out⟩
end Go.Proofs.Ytagfplcafeblbaa.Mc
