/-
  sha: what must come of fixed calls.
-/
import Derived.Test.YtagfplcafeblbaaHk
import Derived.Test.YtagfplcafeblbaaHo
import Derived.Test.YtagfplcafeblbaaNe
import Derived.Deep.DeepCutAuto
import Derived.Deep.CutRange
namespace Go.Proofs.Ytagfplcafeblbaa.H
open Go.RowKit Go.Proofs.Ytagfplcafeblbaa.L Go.Proofs.Ytagfplcafeblbaa.N Go.Proofs.YtagfplcafeblbaaW.PrintWords

theorem cells_u8 : Try.prog.cellsOf 5 = 1 := by kernel_rfl
theorem size_u8 : (Try.prog.info? 5).map (·.size) = some 1 := by kernel_rfl
theorem eq_sum (l m : List Nat) (hl : l.length = 32) (hm : m.length = 32) (W : World) : (Op.equalIn 10000 29 (.agg (arr .u8 l)) (.agg (arr .u8 m))).run Try.prog W = .ok (decide (l = m)) W :=
  eq_arr' Try.underlying29 Try.underlying5 size_u8 cells_u8 .u8 l m hl hm W
def abcN : List Nat := [0xba, 0x78, 0x16, 0xbf, 0x8f, 0x01, 0xcf, 0xea, 0x41, 0x41, 0x40, 0xde, 0x5d, 0xae, 0x22, 0x23, 0xb0, 0x03, 0x61, 0xa3, 0x96, 0x17, 0x7a, 0x9c, 0xb4, 0x10, 0xff, 0x61, 0xf2, 0x00, 0x15, 0xad]
theorem abc1 : shaN ([[97, 98, 99]] : List (List Nat)).flatten = abcN := abc
theorem abc3 : shaN ([[97], [], [98, 99]] : List (List Nat)).flatten = abcN := abc
/-- a row of slices is written: a sum stays -/
theorem SH.over {b : Nat} {l : List Nat} {w w1 : World} {B : Nat} {v : Value} {ps : List (Option Addr × Nat × Nat)} (h : SH b l w) (hR : kSl.R 22 w B (fun _ => True) v ps) (hg : w.grownBy w1 v.ownBlock) : SH b l w1 := by
  obtain ⟨inner, ho⟩ := Kd.R_own hR
  cases hv : v.ownBlock with
  | none =>
    rw [hv] at hg
    obtain ⟨A, c, h⟩ := h
    exact ⟨A, c, h.move (hg.block b h.g.lt (by simp)) (fun ad ha => hg.block _ (h.ty.lt ha) (by simp))⟩
  | some k =>
    rw [hv] at hg
    obtain ⟨cells, hc⟩ := own_typed ho k hv
    exact h.other hc (by decide) (by decide) hg
set_option maxRecDepth 100000 in
set_option maxHeartbeats 1600000 in
theorem alive_any (w : World) : Calls Try.prog 14 #[] w fun e w' => e = .returned (.bool true) ∧ Below w.heap.size w w' := by
  go_enter Try.func14, Try.ntmps14
  go_wp2_with fail
  rw [cv_at]
  case hg => simp
  go_wp2_with fail
  refine calls_at fun W hW => ?_
  have hb : Below w.heap.size w W := hW ▸ ((Below.refl _ _).alloc (Nat.le_refl _) _).alloc (by rw [alloc_size]; omega) _
  have hr : RB W (some ⟨w.heap.size + 1, 0, none⟩) [[97, 98, 99]] := by
    rw [hW, ← alloc_size w (.cells (arr .u8 [97, 98, 99]) 5 (3, 4))]
    exact RB_one 22 (C_lit [97, 98, 99] w (3, 4) (by decide)) (by decide) (Nat.le_refl _)
  have HQ := Lib.hid (of_any [[97, 98, 99]] _ 1 W hr (by decide) (by decide) (by decide))
  rw [abc1] at HQ
  have HB := Lib.hid hb
  clear hW hb hr
  refine HQ.out.mono ?_
  rintro e W1 ⟨rfl, hb1⟩
  have HB1 := Lib.hid (HB.out.trans (hb1.mono HB.out.size))
  clear hb1 HB HQ
  go_wp2_with (refine store_ab .u8 W1.heap.size z32 abcN rfl rfl rfl rfl rfl (AB.mk W1 .u8 tSum z32) (by exact info_sum) rfl ?_; intro W2 h2 hg2; (have H2 := Lib.hid h2); (have HG2 := Lib.hid hg2); clear h2 hg2)
  rw [cv_at]
  case hg => simp
  go_wp2_with fail
  rw [cv_at]
  case hg => simp
  go_wp2_with fail
  refine calls_at fun W3 hW3 => ?_
  obtain ⟨hb2, hs2⟩ := below_new HG2.out
  have hb23 : Below W2.heap.size W2 W3 := hW3 ▸ (((Below.refl _ _).alloc (Nat.le_refl _) _).alloc (by rw [alloc_size]; omega) _).alloc (by rw [alloc_size, alloc_size]; omega) _
  have hb := (HB1.out.trans (hb2.mono HB1.out.size)).trans (hb23.mono (by have := HB1.out.size; omega))
  have h23 := H2.out.below H2.out.lt hb23
  have hr : RB W3 (some ⟨W2.heap.size + 1 + 1, 0, none⟩) [[97], [], [98, 99]] := by
    have e1 := alloc_size W2 (.cells (arr .u8 [97]) 5 (1, 2))
    have e2 := alloc_size (W2.alloc (.cells (arr .u8 [97]) 5 (1, 2))) (.cells (arr .u8 [98, 99]) 5 (2, 3))
    rw [e1] at e2
    have c1 := C_lit [97] W2 (1, 2) (by decide)
    have c2 := C_lit [98, 99] (W2.alloc (.cells (arr .u8 [97]) 5 (1, 2))) (2, 3) (by decide)
    rw [e1] at c2
    rw [hW3, ← e2]
    refine RB_blk (heap_alloc_new _ _) (fun j hj => ?_)
    have h3 : j = 0 ∨ j = 1 ∨ j = 2 := by simp at hj; omega
    rcases h3 with rfl | rfl | rfl
    · exact ⟨_, _, rfl, Kd.C_alloc (Kd.C_alloc c1 _) _, by decide, Nat.le_refl _⟩
    · exact ⟨_, _, rfl, C_none _, by decide, Nat.le_refl _⟩
    · exact ⟨_, _, rfl, Kd.C_alloc c2 _, by decide, Nat.le_refl _⟩
  have HQ := Lib.hid (of_any [[97], [], [98, 99]] _ 3 W3 hr (by decide) (by decide) (by decide))
  rw [abc3] at HQ
  have HB3 := Lib.hid hb
  have H3 := Lib.hid h23
  clear hW3 hb hr hb2 hs2 hb23 h23 H2 HG2 HB1
  refine HQ.out.mono ?_
  rintro e W4 ⟨rfl, hb4⟩
  have HB4 := Lib.hid (HB3.out.trans (hb4.mono HB3.out.size))
  have H4 := Lib.hid (H3.out.below H3.out.lt hb4)
  clear hb4 HB3 HQ H3
  generalize W1.heap.size = b1 at *
  go_upto_region 3 with (refine store_ab .u8 W4.heap.size z32 abcN rfl rfl rfl rfl rfl (AB.mk W4 .u8 tSum z32) (by exact info_sum) rfl ?_; intro W5 h5 hg5; (have H5 := Lib.hid h5); (have HG5 := Lib.hid hg5); clear h5 hg5)
  obtain ⟨hb5, _⟩ := below_new HG5.out
  have h15 := H4.out.below H4.out.lt hb5
  have HB5 := Lib.hid (HB4.out.trans (hb5.mono HB4.out.size))
  have c0 : W5.cell? ⟨b1, 0, none⟩ = some (.int .u8 186) := h15.cell (i := 0) (by decide)
  have c1 : W5.cell? ⟨b1, 1, none⟩ = some (.int .u8 120) := h15.cell (i := 1) (by decide)
  have c2 : W5.cell? ⟨b1, 2, none⟩ = some (.int .u8 22) := h15.cell (i := 2) (by decide)
  have c3 : W5.cell? ⟨b1, 3, none⟩ = some (.int .u8 191) := h15.cell (i := 3) (by decide)
  have H15 := Lib.hid h15
  have heq := eq_sum abcN abcN rfl rfl
  clear hb5 h15 HG5 HB4
  go_wp2_with (first | (refine load_abG .u8 b1 abcN rfl rfl rfl H15.out Try.underlying29 info_sum ?_) | (refine load_abG .u8 W4.heap.size abcN rfl rfl rfl H5.out Try.underlying29 info_sum ?_))
  go_ret
  exact ⟨rfl, HB5.out⟩
end Go.Proofs.Ytagfplcafeblbaa.H
