/-
  frag: what must come of fixed calls.
-/
import Derived.Test.YthgdbdhonhkkpaaGe
import Derived.Test.YthgdbdhonhkkpaaGf
namespace Go.Proofs.Ythgdbdhonhkkpaa.Fg
open Go.RowKit Go.Proofs.Ythgdbdhonhkkpaa.L Go.Proofs.Ythgdbdhonhkkpaa.V Go.Proofs.Ythgdbdhonhkkpaa.N Go.Proofs.YthgdbdhonhkkpaaW.PrintWords

theorem made_list (k : IntKind) (n : Nat) : madeCells #[.int k 0] n = ((List.replicate n (0 : Int)).map (Value.int k)).toArray := by
  apply Array.ext'
  rw [toList_madeCells_one]
  simp
theorem make_l (n : Nat) (N : Int) (hN : N = (n : Int)) (hn : n ≤ 281474976710656) (w : World) : (Instr.makeSlice 23 (.int .i64 N) (.int .i64 N)).run Try.prog w = .ok (.slice (some ⟨w.heap.size, 0, none⟩) n n) (w.alloc (.cells ((List.replicate n (0 : Int)).map (Value.int .u8)).toArray 5)) := by
  subst hN
  rw [← made_list]
  exact run_make_row' 23 5 (.int .u8 0) 1 Try.underlying23 S.info_u8 rfl .i64 .i64 n (by omega) (by omega) w
theorem C_of_blk {w : World} {b : Nat} {k : IntKind} {e : TypeId} {l : List Int} (h : w.heap[b]? = some (.cells (l.map (Value.int k)).toArray e (0, 0))) (hl : l.length ≤ maxLen) : (Kd.int k).C w (some ⟨b, 0, none⟩) l.length l :=
  (Kd.R_reads' (R_of_blk (B := 0) h (Nat.zero_le _) hl)).2.2
def z481 : List Int := List.replicate 481 0
theorem sp481 : (spL 7 z481).length = 2 ∧ spE 7 z481 = 0 ∧ joinE (spL 7 z481) = 0 ∧ (joinD (spL 7 z481)).length = 481 := by decide +kernel
theorem rd1 : readR [7, 0, 1, 9] = ((7, 0, 1, [9]), 0) := by decide +kernel
theorem rd2 : readR [7, 1, 1, 9] = (zP, 3) := by decide +kernel
theorem okl (a b c d : Nat) (ha : a < 256) (hb : b < 256) (hc : c < 256) (hd : d < 256) : okB [(a : Int), b, c, d] := by
  intro x hx
  simp at hx
  omega
set_option maxRecDepth 100000 in
set_option maxHeartbeats 1600000 in
theorem alive_any (w : World) : Calls Try.prog 15 #[] w fun e w' => e = .returned (.bool true) ∧ Below w.heap.size w w' := by
  have hmk := make_l 481 481 rfl (by decide)
  obtain ⟨h1, h2, h3, h4⟩ := sp481
  have hC := fun w => C_of_blk (k := .u8) (heap_alloc_new w (.cells ((List.replicate 481 (0 : Int)).map (Value.int .u8)).toArray 5)) (by rw [List.length_replicate]; decide)
  have hq := fun W hC => split_any 7 z481 (some ⟨w.heap.size, 0, none⟩) 481 W hC (by decide)
  rw [h2] at hq
  have hzl : z481.length = 481 := by decide
  have HCz := Lib.hid (hC w)
  rw [show (List.replicate 481 (0 : Int)) = z481 from rfl] at hmk HCz
  rw [hzl] at HCz hq
  obtain ⟨L, hL⟩ : ∃ L, spL 7 z481 = L := ⟨_, rfl⟩
  rw [hL] at h1 h3 h4 hq
  generalize z481.map (Value.int .u8) = Z at hmk HCz
  generalize z481 = z at hq HCz
  have t1 : ((L.length : Int) == 2) = true := by rw [h1]; rfl
  have t1n : (L.length == 2) = true := by rw [h1]; rfl
  have HQ := Lib.hid hq
  have H3 := Lib.hid h3
  have H4 := Lib.hid h4
  have HL := Lib.hid h1
  clear hq h2 h3 h4 hC hL hzl h1
  go_enter Try.func15, Try.ntmps15
  go_wp2_with fail
  refine calls_at fun W0 hW0 => ?_
  rw [← hW0] at HCz
  have HB0 := Lib.hid (show Below w.heap.size w W0 from hW0 ▸ (Below.refl _ _).alloc (Nat.le_refl _) _)
  clear hW0 hmk
  refine (HQ.out W0 HCz.out).mono ?_
  rintro e W1 ⟨v, rfl, hv, hb1⟩
  obtain ⟨A1, c1, rfl, hc1, hC1⟩ := Kd.R_reads hv
  have HB1 := Lib.hid (HB0.out.trans (hb1.mono HB0.out.size))
  have HC1 := Lib.hid hC1
  have Hc1 := Lib.hid hc1
  clear hv hb1 hc1 hC1 HQ HCz HB0
  go_wp2_with fail
  refine (join_any L A1 c1 W1 HC1.out Hc1.out).mono ?_
  rintro e W2 ⟨v, rfl, hv, hb2⟩
  rw [H3.out]
  obtain ⟨A2, c2, hv2, _, _⟩ := Kd.R_reads hv
  rw [H4.out] at hv2
  subst hv2
  have HB2 := Lib.hid (HB1.out.trans (hb2.mono HB1.out.size))
  clear hv hb2 HC1 HB1
  go_wp2_with fail
  refine calls_at fun W3 hW3 => ?_
  have hb3 : Below W2.heap.size W2 W3 := hW3 ▸ (Below.refl _ _).alloc (Nat.le_refl _) _
  have hC3 := C_of_blk (w := W3) (b := W2.heap.size) (k := .u8) (e := 5) (l := [7, 0, 1, 9]) (by rw [hW3]; exact heap_alloc_new _ _) (by decide)
  have HB3 := Lib.hid (HB2.out.trans (hb3.mono HB2.out.size))
  have hq := read_any [7, 0, 1, 9] _ 4 W3 hC3 (by decide) (okl 7 0 1 9 (by decide) (by decide) (by decide) (by decide)) (by decide)
  rw [rd1] at hq
  have HQ := Lib.hid hq
  clear hW3 hb3 hC3 hq HB2
  refine HQ.out.mono ?_
  rintro e W4 ⟨v, rfl, hv, hb4⟩
  obtain ⟨A4, c4, rfl⟩ := Kd.R_slice hv
  simp only [ptV]
  have HB4 := Lib.hid (HB3.out.trans (hb4.mono HB3.out.size))
  clear hv hb4 HQ HB3
  go_wp2_with fail
  refine calls_at fun W5 hW5 => ?_
  have hb5a : Below W4.heap.size W4 (W4.alloc (.cells #[.int .u64 7, .int .i64 0, .int .i64 1, .slice A4 1 c4] 38)) := (Below.refl _ _).alloc (Nat.le_refl _) _
  have hX5 : W5.heap[W4.heap.size]? = some (.cells #[.int .u64 7, .int .i64 0, .int .i64 1, .slice A4 1 c4] 38 (0, 0)) := by
    rw [hW5]
    exact blk_below (heap_alloc_new W4 _) ((Below.refl _ _).alloc (Nat.le_refl _) _)
  have hb5 : Below W4.heap.size W4 W5 := by
    rw [hW5]
    exact hb5a.alloc hb5a.size _
  have hC5 := C_of_blk (w := W5) (b := W4.heap.size + 1) (k := .u8) (e := 5) (l := [7, 1, 1, 9]) (by
    rw [hW5, show W4.heap.size + 1 = (W4.alloc (.cells #[.int .u64 7, .int .i64 0, .int .i64 1, .slice A4 1 c4] 38)).heap.size from by simp]
    exact heap_alloc_new _ _) (by decide)
  have HB5 := Lib.hid (HB4.out.trans (hb5.mono HB4.out.size))
  have HX5 := Lib.hid hX5
  have hq := read_any [7, 1, 1, 9] _ 4 W5 hC5 (by decide) (okl 7 1 1 9 (by decide) (by decide) (by decide) (by decide)) (by decide)
  rw [rd2] at hq
  have HQ := Lib.hid hq
  clear hW5 hb5 hb5a hC5 hq HB4 hX5
  refine HQ.out.mono ?_
  rintro e W6 ⟨v, rfl, hv, hb6⟩
  obtain ⟨A6, c6, rfl⟩ := Kd.R_slice hv
  simp only [ptV, zP]
  have HB6 := Lib.hid (HB5.out.trans (hb6.mono HB5.out.size))
  have hX6 := (hb6.block _ (blk_lt HX5.out)).trans HX5.out
  have hX7 := blk_below hX6 (w1 := W6.alloc (.cells #[.int .u64 0, .int .i64 0, .int .i64 0, .slice A6 0 c6] 38)) ((Below.refl _ _).alloc (Nat.le_refl _) _)
  have x0 := (blk_cell hX7 0).trans rfl
  clear hv hb6 HQ HB5 HX5 hX6 hX7
  have hcn : countZ 0 = 1 := by decide
  go_wp2_with (go_at_call 23; refine (count_any 0 _).mono ?_; rintro e w1 ⟨rfl, hw1⟩; (rw [hw1, hcn]); clear hw1 w1)
  go_ret
  exact ⟨rfl, HB6.out.alloc HB6.out.size _⟩
end Go.Proofs.Ythgdbdhonhkkpaa.Fg
