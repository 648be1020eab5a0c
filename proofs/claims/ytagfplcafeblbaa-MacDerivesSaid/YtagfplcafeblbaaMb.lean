/-
  mac: Mark.
-/
import Derived.Test.YtagfplcafeblbaaMa
namespace Go.Proofs.Ytagfplcafeblbaa.Mc
open Go.RowKit Go.Proofs.Ytagfplcafeblbaa.L Go.Proofs.Ytagfplcafeblbaa.N Go.Proofs.Ytagfplcafeblbaa.H Go.Proofs.YtagfplcafeblbaaW.PrintWords

set_option maxRecDepth 100000 in
set_option maxHeartbeats 1600000 in
theorem mark_any (key : List Nat) (L : List (List Nat)) (A A2 : Option Addr) (c c2 : Nat) (w : World) (hC : (Kd.int .u8).C w A key.length (nat key)) (hc : key.length ≤ c) (hk : ∀ x ∈ key, x < 256) (hl : key.length ≤ 70368744177664) (h : RB w A2 L) (hL : L.length ≤ 100000000) (hlen : L.flatten.length ≤ 100000000000) :
    Calls Try.prog 33 #[.slice A key.length c, .slice A2 L.length c2] w fun e w' => e = .returned (.agg (arr .u8 (markN key L.flatten))) ∧ Below w.heap.size w w' := by
  have HC := Lib.hid hC
  have HCc := Lib.hid hc
  have HK := Lib.hid hk
  have HKl := Lib.hid hl
  have HR := Lib.hid h
  have HL := Lib.hid (show L.length ≤ 100000000 ∧ L.flatten.length ≤ 100000000000 from ⟨hL, hlen⟩)
  have z1 : (L.length : Int) ≤ 100000000 := by omega
  clear hC hc hk hl h hL hlen
  go_enter Try.func33, Try.ntmps33
  go_wp2_with fail
  refine calls_at fun W hW => ?_
  have h4 : AB .u8 tSum w.heap.size z32 W := hW ▸ AB.mk w .u8 tSum z32
  have hb : Below w.heap.size w W := hW ▸ (Below.refl _ _).alloc (Nat.le_refl _) _
  have hsz : W.heap.size = w.heap.size + 1 := by rw [hW]; simp
  clear hW
  refine (pad_any key A c 54 W (Kd.C_below HC.out hb) HCc.out HK.out (by decide) HKl.out).mono ?_
  rintro e W1 ⟨bp, cp, rfl, hbp, hap, hcp, hb1⟩
  have H4 := Lib.hid (h4.below (by omega) hb1)
  have HB1 := Lib.hid (hb.trans (hb1.mono hb.size))
  have HAp := Lib.hid hap
  have HCp := Lib.hid hcp
  have HL4 := Lib.hid (show w.heap.size < W1.heap.size from by have := hb1.size; omega)
  clear h4 hb hsz hbp hap hcp hb1
  obtain ⟨ps, hpl, hps, hPS⟩ := RB_to_S (HR.out.below HB1.out) (by have := HL.out; omega)
  have HPs := Lib.hid hps
  have HPS := Lib.hid hPS
  have HPl := Lib.hid hpl
  have hpad : (Kd.int .u8).C W1 (some ⟨bp, 0, none⟩) 64 (nat (pdN key 54)) := by
    have := HAp.out.row (by rw [pdN_len]; decide)
    rwa [pdN_len] at this
  have HPad := Lib.hid hpad
  clear hpl hps hPS hpad
  go_wp2_with (at_builtin; refine Kd.R_append_row (fun p : Option Addr × Nat × Nat => Value.slice p.1 p.2.1 p.2.2) (none, 0, 0) (w0 := w) w.heap.size rfl (.tmp 8) (.tmp 9) 40 22 (.slice none 0 0) 24 rfl Try.underlying40 info_sl rfl (by decide) _ [(some ⟨bp, 0, none⟩, 64, cp)] ps A2 L.length c2 (fun _ => True) rfl rfl (fun _ _ => trivial) (kSl_lit (heap_alloc_new W1 _) HB1.out.size) (Kd.C_alloc HPs.out _) (HB1.out.alloc HB1.out.size _) (Nat.le_trans HB1.out.size (by simp)) (by have := HL.out; simp; omega) ?_; intro v1 w2 hr2 hb2 hg2 hat2; (have HR2 := Lib.hid hr2); (have HB2 := Lib.hid hb2); (have HG2 := Lib.hid hg2); (have HAt2 := Lib.hid hat2); clear hr2 hb2 hg2 hat2)
  obtain ⟨hb12, hs12⟩ := below_new (show (W1.alloc _).grownBy w2 (some W1.heap.size) from HG2.out)
  obtain ⟨A5, c5, hv1, hc5, hC5⟩ := Kd.R_reads HR2.out
  have hPS2 := (PS.one (pdN_len key 54) HPad.out (pdN_lt HK.out (by decide)) HCp.out).app HPS.out
  have hM : ([pdN key 54] ++ L).flatten = pdN key 54 ++ L.flatten := by simp
  have hMl : ([pdN key 54] ++ L).flatten.length = 64 + L.flatten.length := by rw [hM, List.length_append, pdN_len]
  have hq := concat_any ([pdN key 54] ++ L) A5 c5 w2 (RB_of_S hC5 (hPS2.below hb12)) (by have := HL.out; simp; omega) (by rw [hMl]; have := HL.out; omega)
  rw [← hPS2.1, ← hv1, hM] at hq
  have HQ := Lib.hid hq
  have HB12 := Lib.hid (HB1.out.trans (hb12.mono HB1.out.size))
  have H42 := Lib.hid (H4.out.below H4.out.lt hb12)
  clear hb12 hs12 hv1 hc5 hC5 hPS2 hM hMl hq HR2 HG2 HB2 HAt2 HPad HPS HPs HPl HAp
  refine HQ.out.mono ?_
  rintro e w3 ⟨v3, rfl, hr3, hb3⟩
  have HB3 := Lib.hid (HB12.out.trans (hb3.mono HB12.out.size))
  have H43 := Lib.hid (H42.out.below H42.out.lt hb3)
  obtain ⟨A6, c6, rfl, hc6, hC6⟩ := Kd.R_reads hr3
  rw [nat_length] at hc6 hC6 ⊢
  have HC6 := Lib.hid hC6
  have Hc6 := Lib.hid hc6
  clear hr3 hb3 HQ HB12 H42 hc6 hC6
  have hml : (pdN key 54 ++ L.flatten).length ≤ 100000000064 := by rw [List.length_append, pdN_len]; have := HL.out; omega
  have hmt : ∀ x ∈ pdN key 54 ++ L.flatten, x < 256 := app_lt (pdN_lt HK.out (by decide)) (RB_lt HR.out)
  have HMl := Lib.hid hml
  have HMt := Lib.hid hmt
  have HMk := Lib.hid (show markN key L.flatten = shaN (pdN key 92 ++ shaN (pdN key 54 ++ L.flatten)) from rfl)
  clear hml hmt
  generalize pdN key 54 ++ L.flatten = M at HC6 Hc6 HMl HMt HMk ⊢
  go_wp2_with fail
  have hq := of_any [M] _ 1 _ (RB_one 22 HC6.out HMt.out Hc6.out) (by simp) (by have := HMl.out; simp; omega) (by have := HMl.out; simp; omega)
  rw [show ([M] : List (List Nat)).flatten = M from by simp] at hq
  have HQ := Lib.hid hq
  clear hq
  obtain ⟨R, hR⟩ : ∃ R, shaN M = R := ⟨_, rfl⟩
  have hRl := shaN_length M
  have hRt := shaN_lt M
  rw [hR] at HQ HMk hRl hRt
  have HRl := Lib.hid hRl
  have HRt := Lib.hid hRt
  clear hR hRl hRt
  refine HQ.out.mono ?_
  rintro e w4 ⟨rfl, hb4⟩
  have hb34 : Below w3.heap.size w3 w4 := ((Below.refl _ _).alloc (Nat.le_refl _) _).trans (hb4.mono (by rw [alloc_size]; omega))
  have HB4 := Lib.hid (HB3.out.trans (hb34.mono HB3.out.size))
  have H44 := Lib.hid (H43.out.below H43.out.lt hb34)
  clear hb4 hb34 HQ HB3 H43
  go_wp2_with (refine store_ab .u8 w4.heap.size z32 R rfl rfl rfl rfl rfl (AB.mk w4 .u8 tSum z32) (by rw [HRl.out]; exact info_sum) (by rw [HRl.out]; rfl) ?_; intro W5 h5 hg5; (have H5 := Lib.hid h5); (have HG5 := Lib.hid hg5); clear h5 hg5)
  obtain ⟨hb5, hs5⟩ := below_new HG5.out
  have HB5 := Lib.hid (HB4.out.trans (hb5.mono HB4.out.size))
  have H45 := Lib.hid (H44.out.below H44.out.lt hb5)
  clear hb5 hs5 HG5 HB4 H44
  generalize w4.heap.size = b5 at *
  refine Q.wp_region_segsF none [([0, 2], some 1), ([], some 3), ([], some 4)] [] 5 (by kernel_rfl) (by kernel_rfl) (by kernel_rfl) (by kernel_rfl) ?_
  dsimp only [Q.wpSegsF, Q.picks, Q.pick]
  repeat (go_big_quiet_step (fail))
  refine wpQuiet_nil ?_
  have HQ := Lib.hid (pad_any key A c 92 W5.drew (Kd.C_below HC.out HB5.out.drew) HCc.out HK.out (by decide) HKl.out)
  go_wp2_with (go_at_call 51; refine HQ.out.mono ?_; rintro e w6 ⟨bq, cq, rfl, hbq, haq, hcq, hb6⟩; (have HAq := Lib.hid haq); (have HCq := Lib.hid hcq); (have HB6 := Lib.hid hb6); clear hbq haq hcq hb6)
  refine Q.ev_keep HB6.out (Nat.le_refl _) ?_
  have HBd := Lib.hid (HB5.out.trans (((stay0 W5).trans HB6.out).mono HB5.out.size))
  have H46 := Lib.hid (H45.out.drew.below H45.out.lt HB6.out)
  have H56 := Lib.hid (H5.out.drew.below H5.out.lt HB6.out)
  have HZ6 := Lib.hid (show W5.heap.size ≤ w6.heap.size from HB6.out.size)
  clear HQ HB6 HB5 H45 H5
  refine wpQuiet_nil ?_
  go_wp2_with fail
  refine Q.ev_keep ((Below.refl _ _).alloc (Nat.le_refl _) _) HZ6.out ?_
  refine wpQuiet_nil ?_
  have hrb : RB (w6.alloc (.cells #[.slice (some ⟨bq, 0, none⟩) 64 cq, .slice (some ⟨b5, 0, none⟩) 32 32] 22)) (some ⟨w6.heap.size, 0, none⟩) [pdN key 92, R] := by
    refine RB_blk (heap_alloc_new w6 _) (fun j hj => ?_)
    have h2 : j = 0 ∨ j = 1 := by simp at hj; omega
    rcases h2 with rfl | rfl
    · have h1 := HAq.out.row (by rw [pdN_len]; decide)
      rw [show ([pdN key 92, R] : List (List Nat)).getD 0 [] = pdN key 92 from rfl]
      rw [pdN_len] at h1 ⊢
      exact ⟨_, _, rfl, Kd.C_alloc h1 _, pdN_lt HK.out (by decide), HCq.out⟩
    · have h1 := H56.out.row (by rw [HRl.out]; decide)
      rw [show ([pdN key 92, R] : List (List Nat)).getD 1 [] = R from rfl]
      rw [HRl.out] at h1 ⊢
      exact ⟨_, _, rfl, Kd.C_alloc h1 _, HRt.out, Nat.le_refl _⟩
  have hfl : ([pdN key 92, R] : List (List Nat)).flatten = pdN key 92 ++ R := by simp
  have hq := of_any [pdN key 92, R] _ 2 _ hrb (by simp) (by rw [hfl, List.length_append, pdN_len, HRl.out]; decide) (fun x hx => by
    simp at hx
    rcases hx with rfl | rfl
    · rw [pdN_len]; decide
    · rw [HRl.out]; decide)
  rw [hfl, ← HMk.out] at hq
  have HQ := Lib.hid hq
  clear hq hrb hfl
  obtain ⟨Z, hZ⟩ : ∃ Z, markN key L.flatten = Z := ⟨_, rfl⟩
  have hZl := markN_len key L.flatten
  rw [hZ] at HQ hZl
  have HZl := Lib.hid hZl
  have HZe := Lib.hid hZ
  clear hZ hZl
  go_wp2_with (go_at_call 18; refine HQ.out.mono ?_; rintro e w7 ⟨rfl, hb7⟩; (have HB7 := Lib.hid hb7); clear hb7)
  refine Q.ev_keep HB7.out (by rw [alloc_size]; have := HZ6.out; omega) ?_
  have hb67 : Below w6.heap.size w6 w7 := ((Below.refl _ _).alloc (Nat.le_refl _) _).trans (HB7.out.mono (by rw [alloc_size]; omega))
  have H47 := Lib.hid (H46.out.below H46.out.lt hb67)
  have HBe := Lib.hid (HBd.out.trans (hb67.mono HBd.out.size))
  clear HQ HB7 hb67 H46 H56 HBd HZ6 HAq HCq
  refine wpQuiet_nil ?_
  refine store_ab .u8 w.heap.size z32 Z rfl rfl rfl rfl rfl H47.out (by rw [HZl.out]; exact info_sum) (by rw [HZl.out]; rfl) ?_
  intro w8 h8 hg8
  have H8 := Lib.hid h8
  have HBf := Lib.hid (below_grown HBe.out HBe.out.size hg8 (Nat.le_refl _))
  clear h8 hg8
  refine NoPanic.normal ?_
  go_wp2_with fail
  have hl := H8.out.load (P := Try.prog) Try.underlying29 (by rw [HZl.out]; exact info_sum)
  exact bodyPost_ret (v := .agg (arr .u8 Z)) (by simp [results, Try.results33, hl, Act.put, asAddr]) rfl ⟨by rw [HZe.out], HBf.out⟩
end Go.Proofs.Ytagfplcafeblbaa.Mc
