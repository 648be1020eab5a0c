/-
  sha: Of.
-/
import Derived.Test.YtagfplcafeblbaaHj
namespace Go.Proofs.Ytagfplcafeblbaa.H
open Go.RowKit Go.Proofs.Ytagfplcafeblbaa.L Go.Proofs.Ytagfplcafeblbaa.N Go.Proofs.YtagfplcafeblbaaW.PrintWords

set_option maxRecDepth 100000 in
set_option maxHeartbeats 1600000 in
theorem of_any (L : List (List Nat)) (A : Option Addr) (c : Nat) (w : World) (h : RB w A L) (hL : L.length ≤ 70368744177664) (hlen : L.flatten.length ≤ 1152921504606846976) (hx : ∀ x ∈ L, x.length ≤ 70368744177664) :
    Calls Try.prog 18 #[.slice A L.length c] w fun e w' => e = .returned (.agg (arr .u8 (shaN L.flatten))) ∧ Below w.heap.size w w' := by
  have HR := Lib.hid h
  have HL := Lib.hid hL
  have HLen := Lib.hid hlen
  have HXl := Lib.hid hx
  have z1 : (L.length : Int) ≤ 70368744177664 := by omega
  clear h hL hlen hx
  go_enter Try.func18, Try.ntmps18
  go_wp2_with fail
  refine calls_at fun W hW => ?_
  have h2 : AB .u8 tSum w.heap.size z32 W := hW ▸ AB.mk w .u8 tSum z32
  have hb : Below w.heap.size w W := hW ▸ (Below.refl _ _).alloc (Nat.le_refl _) _
  have hsz : W.heap.size = w.heap.size + 1 := by rw [hW]; simp
  clear hW
  refine (new_any W).mono ?_
  rintro e W1 ⟨b, rfl, hbW, hsh, hb1⟩
  have H2 := Lib.hid (h2.below (by omega) hb1)
  have HB1 := Lib.hid (hb.trans (hb1.mono hb.size))
  have HSh := Lib.hid hsh
  have HLt := Lib.hid (show w.heap.size < b ∧ b < W1.heap.size from ⟨by omega, hsh.lt⟩)
  clear h2 hb hsz hbW hsh hb1
  go_wp2_with fail
  go_loopg [11] (L.length + 1) (fun g v11 w' => ∃ i : Nat, v11 = .int .i64 i ∧ Hid (i ≤ L.length ∧ L.length < g + i) ∧ Hid (SH b (L.take i).flatten w') ∧ Hid (W1.grownBy w' (some b)))
  case atStart => exact ⟨0, rfl, Lib.hid ⟨by omega, by omega⟩, HSh, Lib.hid (World.grownBy.refl _ _)⟩
  case round =>
    obtain ⟨i, rfl, HJ, HS, HG⟩ := hrel
    cases gk with
    | zero => have := HJ.out; omega
    | succ k =>
      by_cases hlt : i < L.length
      · have HJ' := Lib.hid (show i < L.length ∧ L.length < (k + 1) + i from ⟨hlt, HJ.out.2⟩)
        have hbl := below_grown HB1.out (HB1.out.size) HG.out (Nat.le_of_lt HLt.out.1)
        obtain ⟨bp, off, Aj, cj, rfl, hbp, hc, hC, h8, _⟩ := (HR.out.below hbl) i hlt
        have hft := flatten_take hlt
        have hle := flatten_take_le L (i + 1)
        rw [hft] at hle
        rw [List.length_append] at hle
        have hq := add_any b (L.take i).flatten (L.getD i []) Aj cj wr HS.out hC h8 (by have := HLen.out; omega) (getD_le HXl.out)
        rw [← hft] at hq
        have HQ := Lib.hid hq
        have z2 : (0 : Int) ≤ (i : Int) := by omega
        have z3 : (i : Int) < (L.length : Int) := by omega
        clear hft hle hq hC h8 hbl hlt HJ
        generalize L.getD i [] = x at hc HQ
        go_wp2_with fail
        refine HQ.out.mono ?_
        rintro e w2 ⟨rfl, hs2, hg2⟩
        have HS2 := Lib.hid hs2
        have HG2 := Lib.hid (HG.out.trans hg2)
        clear hs2 hg2 HQ
        go_wp2_with fail
        go_roundg k
        case measure => have := HJ'.out; omega
        case rel => exact ⟨i + 1, by go_num, Lib.hid (by have := HJ'.out; omega), HS2, HG2⟩
      · have hi : i = L.length := by have := HJ.out; omega
        subst hi
        have hs := HS.out
        rw [List.take_length] at hs
        have hbl := below_grown HB1.out (HB1.out.size) HG.out (Nat.le_of_lt HLt.out.1)
        have h2 := H2.out.grown HG.out (by intro e; injection e with e; have := HLt.out; omega)
        have HQ := Lib.hid (sum_any b L.flatten wr hs HLen.out)
        have HBl := Lib.hid hbl
        have HA2 := Lib.hid h2
        clear hs hbl h2 HS HG H2 HJ hlt
        obtain ⟨R, hR⟩ : ∃ R, shaN L.flatten = R := ⟨_, rfl⟩
        have hRl := shaN_length L.flatten
        rw [hR] at HQ hRl
        have HRR := Lib.hid hR
        have HRl := Lib.hid hRl
        clear hR hRl
        go_wp2_with fail
        refine HQ.out.mono ?_
        rintro e w3 ⟨rfl, hb3⟩
        have HB3 := Lib.hid (HBl.out.trans (hb3.mono HBl.out.size))
        have HA3 := Lib.hid (HA2.out.below HA2.out.lt hb3)
        clear hb3 HQ HBl HA2
        go_wp2_with (first
          | (refine store_ab .u8 w3.heap.size z32 R rfl rfl rfl rfl rfl (AB.mk w3 .u8 tSum z32) (by rw [HRl.out]; exact info_sum) (by rw [HRl.out]; rfl) ?_; intro W9 h9 hg9; (have R9 := Lib.hid h9); (have RG9 := Lib.hid hg9); clear h9 hg9)
          | (refine load_ab .u8 w3.heap.size R rfl rfl rfl R9.out Try.underlying29 (by rw [HRl.out]; exact info_sum) ?_)
          | (refine store_ab .u8 w.heap.size z32 R rfl rfl rfl rfl rfl ((HA3.out.below HA3.out.lt ((Below.refl _ _).alloc (Nat.le_refl _) (.cells (arr .u8 z32) tSum))).grown RG9.out (by intro e; injection e with e; have := HA3.out.lt; omega)) (by rw [HRl.out]; exact info_sum) (by rw [HRl.out]; rfl) ?_; intro W10 h10 hg10; (have R10 := Lib.hid h10); (have RG10 := Lib.hid hg10); clear h10 hg10))
        have hl := R10.out.load (P := Try.prog) Try.underlying29 (by rw [HRl.out]; exact info_sum)
        have hb9 := below_grown (HB3.out.alloc HB3.out.size (.cells (arr .u8 z32) tSum)) (by have := HB3.out.size; simp; omega) RG9.out HB3.out.size
        have hb10 := below_grown hb9 hb9.size RG10.out (Nat.le_refl _)
        exact bodyPost_ret (v := .agg (arr .u8 R)) (by simp [results, Try.results18, hl, Act.put, asAddr]) rfl ⟨by rw [HRR.out], hb10⟩
end Go.Proofs.Ytagfplcafeblbaa.H
