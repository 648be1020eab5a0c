/-
  style: alive; the law of flags.
-/
import Derived.Test.YthgdbdhonhkkpaaTg
import Derived.Test.YthgdbdhonhkkpaaNo
namespace Go.Proofs.Ythgdbdhonhkkpaa.St
open Go.RowKit Go.Proofs.Ythgdbdhonhkkpaa.L Go.Proofs.Ythgdbdhonhkkpaa.V Go.Proofs.Ythgdbdhonhkkpaa.N Go.Proofs.YthgdbdhonhkkpaaW.PrintWords

theorem C_blk {w : World} {k : IntKind} {e : TypeId} {b : Nat} {l : List Int} (h : w.heap[b]? = some (.cells (l.map (Value.int k)).toArray e (0, 0))) (hl : l.length ≤ maxLen) : (Kd.int k).C w (some ⟨b, 0, none⟩) l.length l := (Kd.R_reads' (R_of_blk h (Nat.le_refl b) hl)).2.2
theorem ok0 : okS (0, 0, 0) := ⟨by decide, by decide, by decide⟩
theorem chg_alive : chgS (0, 0, 0) [1, 31, 48, 2, 1, 2, 3] = (1, 16777217, 33620483) := by decide +kernel
theorem wrl_alive : wrL (1, 16777217, 33620483) = [1, 129, 0, 0, 1, 130, 1, 2, 3] := by decide +kernel
theorem rd_alive : rdR [1, 129, 0, 0, 1, 130, 1, 2, 3] 0 = ((1, 16777217, 33620483), 9, 0) := by decide +kernel
/-- a change of a style by a literal list -/
theorem change_lit (s t : Sty) (l : List Int) (w : World) (g : Nat) (hg : g = w.heap.size) (hs : okS s) (hl : l.length ≤ 100) (ht : chgS s l = t) :
    Calls Try.prog 37 #[.agg (stA s), .slice (some ⟨g, 0, none⟩) l.length l.length] (w.alloc (.cells (l.map (Value.int .i64)).toArray 3)) fun e w' => e = .returned (.agg (stA t)) ∧ Below w.heap.size w w' := by
  subst hg
  refine (change_any s l _ _ _ hs (C_blk (heap_alloc_new _ _) (by simp only [maxLen]; omega)) (Nat.le_refl _)).mono ?_
  rintro e w' ⟨rfl, hb⟩
  have hb0 : Below w.heap.size w (w.alloc (.cells (l.map (Value.int .i64)).toArray 3)) := (Below.refl _ _).alloc (Nat.le_refl _) _
  exact ⟨by rw [ht], hb0.trans (hb.mono hb0.size)⟩
set_option maxRecDepth 100000 in
set_option maxHeartbeats 3200000 in
theorem alive_any (w : World) : Calls Try.prog 30 #[] w fun e w' => e = .returned (.bool true) ∧ Below w.heap.size w w' := by
  have hq := change_lit (0, 0, 0) (1, 16777217, 33620483) [1, 31, 48, 2, 1, 2, 3] w _ rfl ok0 (by decide) chg_alive
  have HQ := Lib.hid hq
  clear hq
  go_enter Try.func30, Try.ntmps30
  go_upto_region 2 with (go_at_call 37; refine HQ.out.mono ?_; rintro e w1 ⟨rfl, hb1⟩; (have HB1 := Lib.hid hb1); clear hb1 HQ; (unfold stA))
  refine wp_at fun W1 hW1 => ?_
  have HX1 := Lib.hid (show OB w1.heap.size (1, 16777217, 33620483) W1 from hW1 ▸ OB.mk w1 (1, 16777217, 33620483))
  have HB2 := Lib.hid (show Below w.heap.size w W1 from hW1 ▸ HB1.out.alloc HB1.out.size _)
  have hq := write_any (1, 16777217, 33620483) W1
  rw [wrl_alive, show wrE (1, 16777217, 33620483) = 0 from rfl] at hq
  have HQ := Lib.hid hq
  have c0 := HX1.out.c0
  have c1 := HX1.out.c1
  have c2 := HX1.out.c2
  clear hW1 hq
  go_wp2_with (go_at_call 31; refine HQ.out.mono ?_; rintro e w2 ⟨v, rfl, hv, hb2⟩; obtain ⟨A2, q2, rfl, hq2, hC2⟩ := Kd.R_reads hv; (have HC2 := Lib.hid hC2); (have Hq2 := Lib.hid hq2); (have HX2 := Lib.hid (HX1.out.below hb2)); (have HB3 := Lib.hid (HB2.out.trans (hb2.mono HB2.out.size))); clear hv hb2 hq2 hC2 HQ c0 c1 c2)
  have hq := read_any [1, 129, 0, 0, 1, 130, 1, 2, 3] A2 q2 0 w2 HC2.out Hq2.out (by unfold okB; decide)
  rw [rd_alive] at hq
  unfold rdV at hq
  have HQ := Lib.hid hq
  clear hq
  go_upto_region 4 with (first
    | (go_at_call 32; refine HQ.out.mono ?_; rintro e w3 ⟨rfl, hb3⟩; (have HX3 := Lib.hid (HX2.out.below hb3)); (have HB4 := Lib.hid (HB3.out.trans (hb3.mono HB3.out.size))); clear hb3 HQ; (unfold stA)))
  refine wp_at fun W3 hW3 => ?_
  have HY3 := Lib.hid (show OB w3.heap.size (1, 16777217, 33620483) W3 from hW3 ▸ OB.mk w3 (1, 16777217, 33620483))
  have HX4 := Lib.hid (show OB w1.heap.size (1, 16777217, 33620483) W3 from hW3 ▸ blk_alloc HX3.out _)
  have HB5 := Lib.hid (show Below w.heap.size w W3 from hW3 ▸ HB4.out.alloc HB4.out.size _)
  clear hW3 HX3 HB4 HX2 HB3
  have hq := write_any (0, 5, 0) W3
  rw [show wrL (0, 5, 0) = [] from rfl, show wrE (0, 5, 0) = 3 from rfl] at hq
  have HQ := Lib.hid hq
  clear hq
  go_upto_region 5 with (go_at_call 31; refine HQ.out.mono ?_; rintro e w4 ⟨v4, rfl, hv, hb2⟩; (have HY4 := Lib.hid (HY3.out.below hb2)); (have HX5 := Lib.hid (HX4.out.below hb2)); (have HB6 := Lib.hid (HB5.out.trans (hb2.mono HB5.out.size))); clear hv hb2 HQ HY3 HX4 HB5)
  have k0 := HY4.out.c0
  have k1 := HY4.out.c1
  have k2 := HY4.out.c2
  have c0 := HX5.out.c0
  have c1 := HX5.out.c1
  have c2 := HX5.out.c2
  go_wp2_with fail
  refine (change_any (1, 16777217, 33620483) [] none 0 w4 ⟨by decide, by decide, by decide⟩ (Kd.C_nil _ _) (Nat.le_refl _)).mono ?_
  rintro e w5 ⟨rfl, hb5⟩
  rw [show chgS (1, 16777217, 33620483) [] = (0, 0, 0) from rfl]
  unfold stA
  clear k0 k1 k2 c0 c1 c2
  go_wp2_with fail
  go_ret
  exact ⟨rfl, HB6.out.trans (hb5.mono HB6.out.size)⟩
end Go.Proofs.Ythgdbdhonhkkpaa.St
