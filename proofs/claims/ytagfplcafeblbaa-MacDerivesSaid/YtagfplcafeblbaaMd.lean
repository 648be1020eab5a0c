/-
  mac: Derive; what must come of fixed calls.
-/
import Derived.Test.YtagfplcafeblbaaMc
import Derived.Lib.ConvBytes
namespace Go.Proofs.Ytagfplcafeblbaa.Mc
open Go.RowKit Go.Proofs.Ytagfplcafeblbaa.L Go.Proofs.Ytagfplcafeblbaa.N Go.Proofs.Ytagfplcafeblbaa.H Go.Proofs.YtagfplcafeblbaaW.PrintWords

/-- a string's bytes -/
def sbN (s : ByteArray) : List Nat := s.data.toList.map UInt8.toNat
theorem sbN_len (s : ByteArray) : (sbN s).length = s.size := by simp [sbN]
theorem sbN_lt (s : ByteArray) : ∀ x ∈ sbN s, x < 256 := by
  intro x hx
  obtain ⟨y, _, rfl⟩ := List.mem_map.1 hx
  exact y.toNat_lt
theorem sb_below (w : World) (e : TypeId) (s : ByteArray) : Below w.heap.size w (Lib.bytesWorld w e s) := ⟨rfl, rfl, rfl, by rw [Lib.bytesWorld_size]; omega, fun k hk => Lib.bytesWorld_at_old w e s k hk⟩
theorem sb_C (w : World) (s : ByteArray) (hs : s.size ≤ 9223372036854775807) : (Kd.int .u8).C (Lib.bytesWorld w 5 s) (some ⟨w.heap.size, 0, none⟩) s.size (nat (sbN s)) := by
  rw [← sbN_len s]
  refine Kd.C_of_reads (d := (0 : Int)) ⟨nat_length _, by rw [sbN_len]; exact hs, fun _ => ⟨_, rfl, fun j hj => ?_⟩⟩
  have hj' : j < s.size := by rw [sbN_len] at hj; exact hj
  rw [add_at, Nat.zero_add, Lib.bytesWorld_cell w _ s j hj', nat_get hj]
  congr 2
  simp [sbN, List.getD_eq_getElem?_getD, hj']
theorem grown_cap (w : World) (n : Nat) (e : TypeId) : n ≤ grownCap w n 0 e := grownCap_ge w n 0 e
def z16 : List Nat := List.replicate 16 0
abbrev tKey : TypeId := 74
theorem info_key : (Try.prog.info? tKey).map (·.size) = some 16 := by kernel_rfl
/-- the key of a secret, a label and a number -/
def drvN (secret lab : List Nat) (i : Nat) : List Nat := (markN secret (lab ++ [0, i])).take 16
theorem drvN_len (secret lab : List Nat) (i : Nat) : (drvN secret lab i).length = 16 := by rw [drvN, List.length_take, markN_len]; rfl
set_option maxRecDepth 100000 in
set_option maxHeartbeats 1600000 in
theorem derive_bad (n : Nat) (A : Option Addr) (c : Nat) (s : ByteArray) (i : Int) (w : World) (h : n = 0 ∨ i < 0 ∨ 255 < i) (hn : n ≤ 9223372036854775807) :
    Calls Try.prog 38 #[.slice A n c, .string s, .int .i64 i] w fun e w' => e = .returned (.tuple #[.agg (arr .u8 z16), .int .i64 1]) ∧ Below w.heap.size w w' := by
  by_cases h0 : n = 0
  · subst h0
    clear h hn
    go_enter Try.func38, Try.ntmps38
    go_upto_region 2 with (fail)
    refine wp_at fun W hW => ?_
    obtain ⟨h2, h4, hb, hsz⟩ := two_ab (k := .u8) (k' := .u8) z16 z16 hW
    have H2 := Lib.hid h2
    have H4 := Lib.hid h4
    have HB := Lib.hid hb
    have HSz := Lib.hid hsz
    clear hW h2 h4 hb hsz
    go_wp2_with (first
      | (refine load_ab .u8 (w.heap.size + 1) z16 rfl rfl rfl H4.out Try.underlying74 info_key ?_)
      | (refine store_ab .u8 w.heap.size z16 z16 rfl rfl rfl rfl rfl H2.out info_key rfl ?_; intro W2 hs2 hg2; (have HS2 := Lib.hid hs2); (have HG2 := Lib.hid hg2); clear hs2 hg2))
    have hl := HS2.out.load (P := Try.prog) Try.underlying74 info_key
    have hb2 := below_grown HB.out HB.out.size HG2.out (Nat.le_refl _)
    exact bodyPost_ret (v := .tuple #[.agg (arr .u8 z16), .int .i64 1]) (by simp [results, Try.results38, hl, asAddr]) rfl ⟨rfl, hb2⟩
  · have t0 : ((n : Int) == 0) = false := by rw [beq_eq_false_iff_ne]; omega
    have t0n : (n == 0) = false := by rw [beq_eq_false_iff_ne]; exact h0
    by_cases h1 : i < 0
    · have t1 : decide (i < 0) = true := decide_eq_true h1
      clear h h0 h1 hn
      go_enter Try.func38, Try.ntmps38
      go_upto_region 2 with (fail)
      refine wp_at fun W hW => ?_
      obtain ⟨h2, h4, hb, hsz⟩ := two_ab (k := .u8) (k' := .u8) z16 z16 hW
      have H2 := Lib.hid h2
      have H4 := Lib.hid h4
      have HB := Lib.hid hb
      have HSz := Lib.hid hsz
      clear hW h2 h4 hb hsz
      go_wp2_with (first
        | (refine load_ab .u8 (w.heap.size + 1) z16 rfl rfl rfl H4.out Try.underlying74 info_key ?_)
        | (refine store_ab .u8 w.heap.size z16 z16 rfl rfl rfl rfl rfl H2.out info_key rfl ?_; intro W2 hs2 hg2; (have HS2 := Lib.hid hs2); (have HG2 := Lib.hid hg2); clear hs2 hg2))
      have hl := HS2.out.load (P := Try.prog) Try.underlying74 info_key
      have hb2 := below_grown HB.out HB.out.size HG2.out (Nat.le_refl _)
      exact bodyPost_ret (v := .tuple #[.agg (arr .u8 z16), .int .i64 1]) (by simp [results, Try.results38, hl, asAddr]) rfl ⟨rfl, hb2⟩
    · have t1 : decide (i < 0) = false := decide_eq_false h1
      have t2 : decide (255 < i) = true := decide_eq_true (by omega)
      clear h h0 h1 hn
      go_enter Try.func38, Try.ntmps38
      go_upto_region 2 with (fail)
      refine wp_at fun W hW => ?_
      obtain ⟨h2, h4, hb, hsz⟩ := two_ab (k := .u8) (k' := .u8) z16 z16 hW
      have H2 := Lib.hid h2
      have H4 := Lib.hid h4
      have HB := Lib.hid hb
      have HSz := Lib.hid hsz
      clear hW h2 h4 hb hsz
      go_wp2_with (first
        | (refine load_ab .u8 (w.heap.size + 1) z16 rfl rfl rfl H4.out Try.underlying74 info_key ?_)
        | (refine store_ab .u8 w.heap.size z16 z16 rfl rfl rfl rfl rfl H2.out info_key rfl ?_; intro W2 hs2 hg2; (have HS2 := Lib.hid hs2); (have HG2 := Lib.hid hg2); clear hs2 hg2))
      have hl := HS2.out.load (P := Try.prog) Try.underlying74 info_key
      have hb2 := below_grown HB.out HB.out.size HG2.out (Nat.le_refl _)
      exact bodyPost_ret (v := .tuple #[.agg (arr .u8 z16), .int .i64 1]) (by simp [results, Try.results38, hl, asAddr]) rfl ⟨rfl, hb2⟩
set_option maxRecDepth 100000 in
set_option maxHeartbeats 1600000 in
theorem derive_ok (secret : List Nat) (A : Option Addr) (c : Nat) (s : ByteArray) (i : Nat) (w : World) (hC : (Kd.int .u8).C w A secret.length (nat secret)) (hc : secret.length ≤ c) (hk : ∀ x ∈ secret, x < 256) (hl : secret.length ≤ 70368744177664) (h0 : 0 < secret.length) (hi : i ≤ 255) (hs : s.size ≤ 32) :
    Calls Try.prog 38 #[.slice A secret.length c, .string s, .int .i64 (i : Int)] w fun e w' => e = .returned (.tuple #[.agg (arr .u8 (drvN secret (sbN s) i)), .int .i64 0]) ∧ Below w.heap.size w w' := by
  have t0 : ((secret.length : Int) == 0) = false := by rw [beq_eq_false_iff_ne]; omega
  have t0n : (secret.length == 0) = false := by rw [beq_eq_false_iff_ne]; omega
  have t1 : decide ((i : Int) < 0) = false := decide_eq_false (by omega)
  have t2 : decide ((255 : Int) < (i : Int)) = false := decide_eq_false (by omega)
  have t3 : decide ((32 : Int) < (s.size : Int)) = false := decide_eq_false (by omega)
  have z1 : (0 : Int) ≤ (i : Int) := by omega
  have z2 : (i : Int) ≤ 255 := by omega
  have HC := Lib.hid hC
  have HCc := Lib.hid hc
  have HK := Lib.hid hk
  have HKl := Lib.hid hl
  have HS := Lib.hid (show s.size ≤ 32 ∧ i ≤ 255 from ⟨hs, hi⟩)
  clear hC hc hk hl h0 hi hs
  go_enter Try.func38, Try.ntmps38
  go_upto_region 2 with (fail)
  refine wp_at fun W hW => ?_
  obtain ⟨h2, h4, hb, hsz⟩ := two_ab (k := .u8) (k' := .u8) z16 z16 hW
  have H2 := Lib.hid h2
  have H4 := Lib.hid h4
  have HB := Lib.hid hb
  have HSz := Lib.hid hsz
  clear hW h2 h4 hb hsz
  have hcv : ∀ W : World, (convert 9 22 (.string s)).run Try.prog W = .ok (.slice (some ⟨W.heap.size, 0, none⟩) s.size (grownCap W s.size 0 5)) (Lib.bytesWorld W 5 s) := fun W => Lib.run_convert_string_bytes W _ _ _ s Try.underlying9 Try.underlying22 Try.underlying5
  have hbs : ∀ W : World, (Lib.bytesWorld W 5 s).heap.size = W.heap.size + 1 := fun W => Lib.bytesWorld_size W _ s
  go_wp2_with fail
  refine calls_at fun W3 hW3 => ?_
  have e1 := hbs W
  have e2 := alloc_size (Lib.bytesWorld W 5 s) (.cells #[.int .u8 0, .int .u8 (i : Int)] 5)
  rw [e1] at e2
  have hb0 := sb_below W 5 s
  have hb13 : Below (Lib.bytesWorld W 5 s).heap.size (Lib.bytesWorld W 5 s) W3 := hW3 ▸ ((Below.refl _ _).alloc (Nat.le_refl _) _).alloc (by rw [alloc_size]; omega) _
  have hb03 := hb0.trans (hb13.mono (by rw [e1]; omega))
  have hc1 := Kd.C_below (sb_C W s (by have := HS.out; omega)) hb13
  have hil : ∀ x ∈ [0, i], x < 256 := by
    intro x hx
    simp at hx
    have := HS.out
    omega
  have hc2 := C_lit [0, i] (Lib.bytesWorld W 5 s) (0, 0) (by simp)
  rw [e1] at hc2
  have hb2 : Below ((Lib.bytesWorld W 5 s).alloc (.cells (arr .u8 [0, i]) 5)).heap.size ((Lib.bytesWorld W 5 s).alloc (.cells (arr .u8 [0, i]) 5)) W3 := hW3 ▸ (Below.refl _ _).alloc (Nat.le_refl _) _
  have hrb : RB W3 (some ⟨W.heap.size + 1 + 1, 0, none⟩) [sbN s, [0, i]] := by
    have hh : W3.heap[W.heap.size + 1 + 1]? = some (.cells #[.slice (some ⟨W.heap.size, 0, none⟩) s.size (grownCap W s.size 0 5), .slice (some ⟨W.heap.size + 1, 0, none⟩) 2 2] 22 (0, 0)) := by
      rw [hW3, ← e2]
      exact heap_alloc_new _ _
    refine RB_blk hh (fun j hj => ?_)
    have h2 : j = 0 ∨ j = 1 := by simp at hj; omega
    rcases h2 with rfl | rfl
    · rw [show ([sbN s, [0, i]] : List (List Nat)).getD 0 [] = sbN s from rfl, sbN_len]
      exact ⟨_, _, rfl, hc1, sbN_lt s, grown_cap W s.size _⟩
    · rw [show ([sbN s, [0, i]] : List (List Nat)).getD 1 [] = [0, i] from rfl]
      exact ⟨_, _, rfl, Kd.C_below hc2 hb2, hil, Nat.le_refl _⟩
  have hfl : ([sbN s, [0, i]] : List (List Nat)).flatten = sbN s ++ [0, i] := by simp
  have hbW := HB.out.trans (hb03.mono HB.out.size)
  have hq := mark_any secret [sbN s, [0, i]] A _ c 2 W3 (Kd.C_below HC.out hbW) HCc.out HK.out HKl.out hrb (by simp) (by rw [hfl, List.length_append, sbN_len]; have := HS.out; simp; omega)
  rw [hfl] at hq
  have HQ := Lib.hid hq
  have HB3 := Lib.hid hbW
  have H23 := Lib.hid (H2.out.below H2.out.lt hb03)
  have H43 := Lib.hid (H4.out.below H4.out.lt hb03)
  clear hW3 e1 e2 hb0 hb13 hb03 hc1 hil hc2 hb2 hrb hfl hbW hq hcv hbs
  obtain ⟨Z, hZ⟩ : ∃ Z, markN secret (sbN s ++ [0, i]) = Z := ⟨_, rfl⟩
  have hZl := markN_len secret (sbN s ++ [0, i])
  rw [hZ] at HQ hZl
  have HZl := Lib.hid hZl
  have HZe := Lib.hid (show drvN secret (sbN s) i = Z.take 16 from by unfold drvN; rw [hZ])
  clear hZ hZl
  refine HQ.out.mono ?_
  rintro e W4 ⟨rfl, hb4⟩
  have HB4 := Lib.hid (HB3.out.trans (hb4.mono HB3.out.size))
  have H24 := Lib.hid (H23.out.below H23.out.lt hb4)
  have H44 := Lib.hid (H43.out.below H43.out.lt hb4)
  clear hb4 HQ HB3 H23 H43
  go_wp2_with (refine store_ab .u8 W4.heap.size z32 Z rfl rfl rfl rfl rfl (AB.mk W4 .u8 tSum z32) (by rw [HZl.out]; exact info_sum) (by rw [HZl.out]; rfl) ?_; intro W5 h5 hg5; (have H5 := Lib.hid h5); (have HG5 := Lib.hid hg5); clear h5 hg5)
  obtain ⟨hb5, hs5⟩ := below_new HG5.out
  have HB5 := Lib.hid (HB4.out.trans (hb5.mono HB4.out.size))
  have H25 := Lib.hid (H24.out.below H24.out.lt hb5)
  have H45 := Lib.hid (H44.out.below H44.out.lt hb5)
  clear hb5 hs5 HG5 HB4 H24 H44
  generalize W4.heap.size = b9 at *
  refine Q.wp_region_segsF none [] [0, 1] 2 (by kernel_rfl) (by kernel_rfl) (by kernel_rfl) (by kernel_rfl) ?_
  dsimp only [Q.wpSegsF, Q.picks, Q.pick]
  repeat (go_big_quiet_step (fail))
  refine wpQuiet_nil ?_
  refine copy_ab rfl (.tmp 36) (.tmp 37) 22 22 rfl 5 Try.underlying22 info_u8s .u8 tKey _ _ (w.heap.size + 1) 0 _ _ _ _ rfl rfl z16 H45.out (Z.take 16) (by rw [List.length_take, HZl.out]; rfl) (fun _ => ⟨rfl, _, rfl, fun j hj => ?_⟩) (by rw [List.length_take, HZl.out]; decide) ?_
  · have hj16 : j < 16 := by rw [List.length_take, HZl.out] at hj; omega
    have h := H5.out.cell (i := j) (by rw [HZl.out]; omega)
    rw [show (Z.take 16).getD j 0 = Z.getD j 0 from by rw [List.getD_eq_getElem?_getD, List.getElem?_take_of_lt hj16, ← List.getD_eq_getElem?_getD], add_at, Nat.zero_add]
    exact h
  intro w7 h87 hg7
  have htl : (Z.take 16).length = 16 := by rw [List.length_take, HZl.out]; rfl
  have hsp : splice z16 0 (Z.take 16) = Z.take 16 := by rw [splice_front, htl]; simp [z16]
  rw [hsp] at h87
  have H87 := Lib.hid h87
  have H27 := Lib.hid (H25.out.grown ((grown_drew W5 _).trans hg7) (by intro e; injection e with e; omega))
  have HB7 := Lib.hid (below_grown HB5.out HB5.out.size ((grown_drew W5 _).trans hg7) (by omega))
  have HTl := Lib.hid htl
  clear h87 hg7 htl hsp H45 H25 HB5 H5
  refine NoPanic.normal ?_
  rw [← HZe.out] at H87 HTl
  obtain ⟨K, hK⟩ : ∃ K, drvN secret (sbN s) i = K := ⟨_, rfl⟩
  rw [hK] at H87 HTl
  have HKe := Lib.hid hK
  clear hK
  go_wp2_with (first
    | (refine load_ab .u8 (w.heap.size + 1) K rfl rfl rfl H87.out Try.underlying74 (by rw [HTl.out]; exact info_key) ?_)
    | (refine store_ab .u8 w.heap.size z16 K rfl rfl rfl rfl rfl H27.out (by rw [HTl.out]; exact info_key) (by rw [HTl.out]; rfl) ?_; intro W9 h9 hg9; (have R9 := Lib.hid h9); (have RG9 := Lib.hid hg9); clear h9 hg9))
  have hl := R9.out.load (P := Try.prog) Try.underlying74 (by rw [HTl.out]; exact info_key)
  have hb9 := below_grown HB7.out HB7.out.size RG9.out (Nat.le_refl _)
  exact bodyPost_ret (v := .tuple #[.agg (arr .u8 K), .int .i64 0]) (by simp [results, Try.results38, hl, Act.put, asAddr]) rfl ⟨by rw [HKe.out], hb9⟩
set_option maxRecDepth 100000 in
set_option maxHeartbeats 1600000 in
theorem derive_long (n : Nat) (A : Option Addr) (c : Nat) (s : ByteArray) (i : Nat) (w : World) (h0 : 0 < n) (hn : n ≤ 9223372036854775807) (hi : i ≤ 255) (hs : 32 < s.size) (hs2 : s.size ≤ 9223372036854775807) :
    Calls Try.prog 38 #[.slice A n c, .string s, .int .i64 (i : Int)] w fun e w' => e = .returned (.tuple #[.agg (arr .u8 z16), .int .i64 2]) ∧ Below w.heap.size w w' := by
  have t0 : ((n : Int) == 0) = false := by rw [beq_eq_false_iff_ne]; omega
  have t0n : (n == 0) = false := by rw [beq_eq_false_iff_ne]; omega
  have t1 : decide ((i : Int) < 0) = false := decide_eq_false (by omega)
  have t2 : decide ((255 : Int) < (i : Int)) = false := decide_eq_false (by omega)
  have t3 : decide ((32 : Int) < (s.size : Int)) = true := decide_eq_true (by omega)
  clear h0 hn hi hs hs2
  go_enter Try.func38, Try.ntmps38
  go_upto_region 2 with (fail)
  refine wp_at fun W hW => ?_
  obtain ⟨h2, h4, hb, hsz⟩ := two_ab (k := .u8) (k' := .u8) z16 z16 hW
  have H2 := Lib.hid h2
  have H4 := Lib.hid h4
  have HB := Lib.hid hb
  have HSz := Lib.hid hsz
  clear hW h2 h4 hb hsz
  go_wp2_with (first
    | (refine load_ab .u8 (w.heap.size + 1) z16 rfl rfl rfl H4.out Try.underlying74 info_key ?_)
    | (refine store_ab .u8 w.heap.size z16 z16 rfl rfl rfl rfl rfl H2.out info_key rfl ?_; intro W2 hs2 hg2; (have HS2 := Lib.hid hs2); (have HG2 := Lib.hid hg2); clear hs2 hg2))
  have hl := HS2.out.load (P := Try.prog) Try.underlying74 info_key
  have hb2 := below_grown HB.out HB.out.size HG2.out (Nat.le_refl _)
  exact bodyPost_ret (v := .tuple #[.agg (arr .u8 z16), .int .i64 2]) (by simp [results, Try.results38, hl, asAddr]) rfl ⟨rfl, hb2⟩
end Go.Proofs.Ytagfplcafeblbaa.Mc
