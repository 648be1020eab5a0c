/-
  mac: marks in plain Lean; pad, Mark.
-/
import Derived.Test.YtagfplcafeblbaaHk
import Derived.Test.YtagfplcafeblbaaNg
import Derived.Deep.DeepCutAuto
import Derived.Deep.CutRange
namespace Go.Proofs.Ytagfplcafeblbaa.Mc
open Go.RowKit Go.Proofs.Ytagfplcafeblbaa.L Go.Proofs.Ytagfplcafeblbaa.N Go.Proofs.Ytagfplcafeblbaa.H Go.Proofs.YtagfplcafeblbaaW.PrintWords

/-- a key, or its sum -/
def kkN (key : List Nat) : List Nat := if 64 < key.length then shaN key else key
theorem kkN_len (key : List Nat) : (kkN key).length ≤ 64 := by
  unfold kkN
  split
  · rw [shaN_length]; decide
  · omega
theorem kkN_lt {key : List Nat} (h : ∀ x ∈ key, x < 256) : ∀ x ∈ kkN key, x < 256 := by
  unfold kkN
  split
  · exact shaN_lt _
  · exact h
def bsN (key : List Nat) : List Nat := kkN key ++ List.replicate (64 - (kkN key).length) 0
theorem bsN_len (key : List Nat) : (bsN key).length = 64 := by
  have := kkN_len key
  simp [bsN]
  omega
theorem bsN_lt {key : List Nat} (h : ∀ x ∈ key, x < 256) : ∀ x ∈ bsN key, x < 256 := app_lt (kkN_lt h) (fun x hx => by rw [List.eq_of_mem_replicate hx]; decide)
def pdN (key : List Nat) (by' : Nat) : List Nat := (bsN key).map (· ^^^ by')
theorem pdN_len (key : List Nat) (b : Nat) : (pdN key b).length = 64 := by rw [pdN, List.length_map, bsN_len]
theorem pdN_lt {key : List Nat} {b : Nat} (h : ∀ x ∈ key, x < 256) (hb : b < 256) : ∀ x ∈ pdN key b, x < 256 := by
  intro x hx
  obtain ⟨y, hy, rfl⟩ := List.mem_map.1 hx
  exact xor_lt8 (bsN_lt h y hy) hb
theorem pdN_get (key : List Nat) (b : Nat) {i : Nat} (h : i < 64) : (pdN key b).getD i 0 = (bsN key).getD i 0 ^^^ b := by
  rw [pdN, List.getD_eq_getElem?_getD, List.getElem?_map, List.getD_eq_getElem?_getD, List.getElem?_eq_getElem (by rw [bsN_len]; exact h)]
  rfl
/-- a mark -/
def markN (key b : List Nat) : List Nat := shaN (pdN key 92 ++ shaN (pdN key 54 ++ b))
theorem markN_len (key b : List Nat) : (markN key b).length = 32 := shaN_length _
theorem markN_lt (key b : List Nat) : ∀ x ∈ markN key b, x < 256 := shaN_lt _

theorem info_u8s : (Try.prog.info? 5).map (·.size) = some 1 := by kernel_rfl
def z64 : List Nat := List.replicate 64 0
set_option maxRecDepth 100000 in
set_option maxHeartbeats 1600000 in
theorem pad_any (key : List Nat) (A : Option Addr) (c by' : Nat) (w : World) (hC : (Kd.int .u8).C w A key.length (nat key)) (hc : key.length ≤ c) (hk : ∀ x ∈ key, x < 256) (hb : by' < 256) (hl : key.length ≤ 70368744177664) :
    Calls Try.prog 51 #[.slice A key.length c, .int .u8 (by' : Int)] w fun e w' => ∃ b cc, e = .returned (.slice (some ⟨b, 0, none⟩) 64 cc) ∧ w.heap.size ≤ b ∧ AB .u8 5 b (pdN key by') w' ∧ 64 ≤ cc ∧ Below w.heap.size w w' := by
  have HC := Lib.hid hC
  have HCc := Lib.hid hc
  have HK := Lib.hid hk
  have HBy := Lib.hid hb
  by_cases h64 : 64 < key.length
  · have t1 : decide ((64 : Int) < (key.length : Int)) = true := decide_eq_true (by omega)
    have t2 : (64 : Int) < (key.length : Int) := by omega
    have HL := Lib.hid hl
    have HKK := Lib.hid (show kkN key = shaN key from by unfold kkN; rw [if_pos h64])
    clear hC hc hk hb hl h64
    go_enter Try.func51, Try.ntmps51
    go_wp2_with fail
    have hq := of_any [key] _ 1 _ (RB_one 22 HC.out HK.out HCc.out) (by simp) (by have := HL.out; simp; omega) (by have := HL.out; simp; omega)
    rw [show ([key] : List (List Nat)).flatten = key from by simp] at hq
    have HQ := Lib.hid hq
    clear hq
    obtain ⟨R, hR⟩ : ∃ R, shaN key = R := ⟨_, rfl⟩
    have hRl := shaN_length key
    rw [hR] at HQ HKK hRl
    have HRl := Lib.hid hRl
    clear hR hRl
    refine HQ.out.mono ?_
    rintro e w1 ⟨rfl, hb1⟩
    have HB1 := Lib.hid ((Below.refl w.heap.size w).alloc (Nat.le_refl _) (.cells #[.slice A key.length c] 22) |>.trans (hb1.mono (by rw [alloc_size]; omega)))
    clear hb1 HQ
    go_upto_region 4 with (refine store_ab .u8 w1.heap.size z32 R rfl rfl rfl rfl rfl (AB.mk w1 .u8 tSum z32) (by rw [HRl.out]; exact info_sum) (by rw [HRl.out]; rfl) ?_; intro W5 h5 hg5; (have H5 := Lib.hid h5); (have HG5 := Lib.hid hg5); clear h5 hg5)
    obtain ⟨hb5, _⟩ := below_new HG5.out
    have HB5 := Lib.hid (HB1.out.trans (hb5.mono HB1.out.size))
    have HR5 := Lib.hid (H5.out.row (by rw [HRl.out]; decide))
    clear hb5 HG5 HB1
    obtain ⟨kk, hkk⟩ : ∃ kk, kkN key = kk := ⟨_, rfl⟩
    have HKl := Lib.hid (show kk.length = 32 from by rw [← hkk, HKK.out, HRl.out])
    have HKm := Lib.hid (show 32 ≤ 64 from by decide)
    have HKr := Lib.hid (show (Kd.int .u8).C W5 (some ⟨w1.heap.size, 0, none⟩) kk.length (nat kk) from by rw [← hkk, HKK.out]; exact HR5.out)
    have HKe := Lib.hid hkk
    clear hkk
    have hmk := make_b 64 64 rfl (by decide)
    rw [show (List.replicate 64 0 : List Nat) = z64 from rfl] at hmk
    go_wp2_with (refine copy_ab rfl (.tmp 18) (.tmp 19) 22 22 rfl 5 Try.underlying22 info_u8s .u8 5 (some ⟨W5.heap.size, 0, none⟩) (some ⟨w1.heap.size, 0, none⟩) W5.heap.size 0 64 64 32 32 rfl rfl z64 (AB.mk W5 .u8 5 z64) kk (by rw [HKl.out]; exact (Nat.min_eq_left (by have := HKm.out; omega)).symm) (fun h0 => ⟨rfl, row_src (Kd.C_alloc HKr.out _) h0⟩) (by rw [Nat.zero_add, HKl.out]; exact HKm.out) ?_; intro W6 h6 hg6; (have H6 := Lib.hid h6); (have HG6 := Lib.hid hg6); clear h6 hg6)
    have hbs : splice z64 0 kk = bsN key := by
      rw [splice_front, bsN, HKe.out, z64, List.drop_replicate]
    obtain ⟨hb6, hs6⟩ := below_new HG6.out
    have HBW := Lib.hid (show w.heap.size ≤ W5.heap.size from HB5.out.size)
    have HBl := Lib.hid (HB5.out.trans (hb6.mono HB5.out.size))
    have hH6 := H6.out
    rw [hbs] at hH6
    have M0 := Lib.hid hH6
    have HBs := Lib.hid (bsN_len key)
    have HPl := Lib.hid (pdN_len key by')
    have HBt := Lib.hid (bsN_lt HK.out)
    have HS6 := Lib.hid hs6
    clear hbs hb6 hs6 hH6 H6 HG6 hmk HB5
    generalize W5.heap.size = b7 at *
    go_loopg [23] 65 (fun g v23 w' => ∃ i : Nat, v23 = .int .i64 i ∧ Hid (i ≤ 64 ∧ 64 < g + i) ∧ Hid (AB .u8 5 b7 (fld (pdN key by') (bsN key) i) w') ∧ Hid (Below w.heap.size w w'))
    case atStart => exact ⟨0, rfl, Lib.hid ⟨by omega, by omega⟩, by rw [fld_zero]; exact M0, HBl⟩
    case round =>
      obtain ⟨i, rfl, HJ, HA, HB⟩ := hrel
      clear M0 HBl
      cases gk with
      | zero => have := HJ.out; omega
      | succ k =>
        by_cases hlt : i < 64
        · have HJ' := Lib.hid (show i < 64 ∧ 64 < (k + 1) + i from ⟨hlt, HJ.out.2⟩)
          have hlen : i < (fld (pdN key by') (bsN key) i).length := by rw [fld_length (by rw [HPl.out, HBs.out]) (by rw [HPl.out]; omega), HBs.out]; exact hlt
          have c1 := HA.out.cell (i := i) hlen
          rw [fld_get (by rw [HPl.out, HBs.out]) (by rw [HPl.out]; exact hlt)] at c1
          have hst := fld_step (new := pdN key by') (old := bsN key) (by rw [HPl.out, HBs.out]) (i := i) (by rw [HPl.out]; exact hlt)
          rw [pdN_get key by' hlt] at hst
          have hx := getD_lt0 (l := bsN key) (m := 256) (by decide) i HBt.out
          obtain ⟨x, hxe⟩ : ∃ x, (bsN key).getD i 0 = x := ⟨_, rfl⟩
          rw [hxe] at c1 hst hx
          have e1 := xor_u8 x by' hx HBy.out
          have fz := HA.out.fz i
          have z1 : (0 : Int) ≤ (i : Int) := by omega
          have z2 : (i : Int) < 64 := by omega
          have HSt := Lib.hid hst
          clear hlen hst hx hxe HJ hlt
          go_wp2_with fail
          go_roundg k
          case measure => have := HJ'.out; omega
          case rel => exact ⟨i + 1, by go_num, Lib.hid (by have := HJ'.out; omega), Lib.hid (by
            have h := HA.out.set i (x ^^^ by')
            rw [HSt.out] at h
            exact h), Lib.hid (below_grown HB.out HB.out.size (grown_set _ _ _ _) HBW.out)⟩
        · have hi : i = 64 := by have := HJ.out; omega
          subst hi
          have hA := HA.out
          rw [show fld (pdN key by') (bsN key) 64 = pdN key by' from by
            have := fld_all (new := pdN key by') (old := bsN key) (by rw [HPl.out, HBs.out])
            rwa [HPl.out] at this] at hA
          have HE := Lib.hid hA
          clear hA
          go_wp2_with fail
          go_ret
          exact ⟨b7, 64, rfl, HBW.out, HE.out, Nat.le_refl _, HB.out⟩
  · have t1 : decide ((64 : Int) < (key.length : Int)) = false := decide_eq_false (by omega)
    obtain ⟨kk, hkk⟩ : ∃ kk, kkN key = kk := ⟨_, rfl⟩
    have HKK := Lib.hid (show kkN key = key from by unfold kkN; rw [if_neg h64])
    have HKl := Lib.hid (show kk.length = key.length from by rw [← hkk, HKK.out])
    have HKm := Lib.hid (show key.length ≤ 64 from by omega)
    have HKr := Lib.hid (show (Kd.int .u8).C w A kk.length (nat kk) from by rw [← hkk, HKK.out]; exact hC)
    have HKe := Lib.hid hkk
    have HB5 := Lib.hid (Below.refl w.heap.size w)
    clear hkk hC hc hk hb hl h64
    go_enter Try.func51, Try.ntmps51
    have hmk := make_b 64 64 rfl (by decide)
    rw [show (List.replicate 64 0 : List Nat) = z64 from rfl] at hmk
    go_wp2_with (refine copy_ab rfl (.tmp 18) (.tmp 19) 22 22 rfl 5 Try.underlying22 info_u8s .u8 5 (some ⟨w.heap.size, 0, none⟩) A w.heap.size 0 64 64 key.length c rfl rfl z64 (AB.mk w .u8 5 z64) kk (by rw [HKl.out]; exact (Nat.min_eq_left (by have := HKm.out; omega)).symm) (fun h0 => ⟨rfl, row_src (Kd.C_alloc HKr.out _) h0⟩) (by rw [Nat.zero_add, HKl.out]; exact HKm.out) ?_; intro W6 h6 hg6; (have H6 := Lib.hid h6); (have HG6 := Lib.hid hg6); clear h6 hg6)
    have hbs : splice z64 0 kk = bsN key := by
      rw [splice_front, bsN, HKe.out, z64, List.drop_replicate]
    obtain ⟨hb6, hs6⟩ := below_new HG6.out
    have HBW := Lib.hid (show w.heap.size ≤ w.heap.size from HB5.out.size)
    have HBl := Lib.hid (HB5.out.trans (hb6.mono HB5.out.size))
    have hH6 := H6.out
    rw [hbs] at hH6
    have M0 := Lib.hid hH6
    have HBs := Lib.hid (bsN_len key)
    have HPl := Lib.hid (pdN_len key by')
    have HBt := Lib.hid (bsN_lt HK.out)
    have HS6 := Lib.hid hs6
    clear hbs hb6 hs6 hH6 H6 HG6 hmk HB5
    go_loopg [23] 65 (fun g v23 w' => ∃ i : Nat, v23 = .int .i64 i ∧ Hid (i ≤ 64 ∧ 64 < g + i) ∧ Hid (AB .u8 5 w.heap.size (fld (pdN key by') (bsN key) i) w') ∧ Hid (Below w.heap.size w w'))
    case atStart => exact ⟨0, rfl, Lib.hid ⟨by omega, by omega⟩, by rw [fld_zero]; exact M0, HBl⟩
    case round =>
      obtain ⟨i, rfl, HJ, HA, HB⟩ := hrel
      clear M0 HBl
      cases gk with
      | zero => have := HJ.out; omega
      | succ k =>
        by_cases hlt : i < 64
        · have HJ' := Lib.hid (show i < 64 ∧ 64 < (k + 1) + i from ⟨hlt, HJ.out.2⟩)
          have hlen : i < (fld (pdN key by') (bsN key) i).length := by rw [fld_length (by rw [HPl.out, HBs.out]) (by rw [HPl.out]; omega), HBs.out]; exact hlt
          have c1 := HA.out.cell (i := i) hlen
          rw [fld_get (by rw [HPl.out, HBs.out]) (by rw [HPl.out]; exact hlt)] at c1
          have hst := fld_step (new := pdN key by') (old := bsN key) (by rw [HPl.out, HBs.out]) (i := i) (by rw [HPl.out]; exact hlt)
          rw [pdN_get key by' hlt] at hst
          have hx := getD_lt0 (l := bsN key) (m := 256) (by decide) i HBt.out
          obtain ⟨x, hxe⟩ : ∃ x, (bsN key).getD i 0 = x := ⟨_, rfl⟩
          rw [hxe] at c1 hst hx
          have e1 := xor_u8 x by' hx HBy.out
          have fz := HA.out.fz i
          have z1 : (0 : Int) ≤ (i : Int) := by omega
          have z2 : (i : Int) < 64 := by omega
          have HSt := Lib.hid hst
          clear hlen hst hx hxe HJ hlt
          go_wp2_with fail
          go_roundg k
          case measure => have := HJ'.out; omega
          case rel => exact ⟨i + 1, by go_num, Lib.hid (by have := HJ'.out; omega), Lib.hid (by
            have h := HA.out.set i (x ^^^ by')
            rw [HSt.out] at h
            exact h), Lib.hid (below_grown HB.out HB.out.size (grown_set _ _ _ _) HBW.out)⟩
        · have hi : i = 64 := by have := HJ.out; omega
          subst hi
          have hA := HA.out
          rw [show fld (pdN key by') (bsN key) 64 = pdN key by' from by
            have := fld_all (new := pdN key by') (old := bsN key) (by rw [HPl.out, HBs.out])
            rwa [HPl.out] at this] at hA
          have HE := Lib.hid hA
          clear hA
          go_wp2_with fail
          go_ret
          exact ⟨_, 64, rfl, HBW.out, HE.out, Nat.le_refl _, HB.out⟩
end Go.Proofs.Ytagfplcafeblbaa.Mc
