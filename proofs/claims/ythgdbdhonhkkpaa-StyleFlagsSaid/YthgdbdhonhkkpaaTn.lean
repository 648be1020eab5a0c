/-
  style: the law of flags.
-/
import Derived.Test.YthgdbdhonhkkpaaTm
namespace Go.Proofs.Ythgdbdhonhkkpaa.St
open Go.RowKit Go.Proofs.Ythgdbdhonhkkpaa.L Go.Proofs.Ythgdbdhonhkkpaa.V Go.Proofs.Ythgdbdhonhkkpaa.N Go.Proofs.YthgdbdhonhkkpaaW.PrintWords

theorem chg_one (s : Sty) {n : Int} (h : ¬ (n = 38 ∨ n = 48)) : chgS s [n] = plainS s n := by
  rw [chgS, if_neg (by simp), chgG_plain _ _ h, chgG_nil]
set_option maxRecDepth 100000 in
set_option maxHeartbeats 6400000 in
theorem flags_walk (s : Sty) (v : Nat) (w : World) (hs : okS s) (hv : v < 256) :
    Calls Try.prog 9 #[.agg (stA s), .int .u8 (v : Int)] w fun e w' => e = .returned (.bool true) ∧ Below w.heap.size w w' := by
  have hand := u8_and7 (x := (v : Int)) (by omega) (by omega)
  have hX := OB.mk w s
  have HX := Lib.hid hX
  have HB := Lib.hid (show Below w.heap.size w (w.alloc (.cells (stA s) tS)) from (Below.refl _ _).alloc (Nat.le_refl _) _)
  have hs2 := hs
  obtain ⟨hs1, hsa, hsb⟩ := hs2
  have HS := Lib.hid hs
  rw [show (Value.agg (stA s)) = .agg #[.int .u8 (s.1 : Int), .int .u32 (s.2.1 : Int), .int .u32 (s.2.2 : Int)] from rfl]
  have hr : (v : Int) % 8 = 0 ∨ (v : Int) % 8 = 1 ∨ (v : Int) % 8 = 2 ∨ (v : Int) % 8 = 3 ∨ (v : Int) % 8 = 4 ∨ (v : Int) % 8 = 5 ∨ (v : Int) % 8 = 6 ∨ (v : Int) % 8 = 7 := by omega
  clear hX hs
  rcases hr with hr | hr | hr | hr | hr | hr | hr | hr <;> rw [hr] at hand <;> clear hr
  · obtain ⟨a1, ha1⟩ : ∃ a, s.1 ||| 1 = a := ⟨_, rfl⟩
    have hb1 := u8or s.1 1 hs1 (by decide)
    rw [ha1] at hb1
    have hlt : a1 < 256 := by rw [← ha1]; exact Nat.or_lt_two_pow (n := 8) hs1 (by decide)
    obtain ⟨b1, hb2⟩ : ∃ b, a1 &&& 252 = b := ⟨_, rfl⟩
    have hb3 := u8_andNot_nat a1 3 hlt (by decide)
    rw [show 255 - 3 = 252 from rfl, hb2] at hb3
    have HQ1 := Lib.hid (fun W g (hg : g = W.heap.size) => change_lit s (a1, s.2) [1] W g hg HS.out (by decide) (by rw [chg_one s (by omega), ← ha1]; rfl))
    have HQ2 := Lib.hid (fun W g (hg : g = W.heap.size) => change_lit (a1, s.2) (b1, s.2) [22] W g hg ⟨hlt, hsa, hsb⟩ (by decide) (by rw [chg_one _ (by omega), ← hb2]; rfl))
    have hb1' : bits .or .u8 (s.1 : Int) 1 = (a1 : Int) := hb1
    have hb3' : bits .andNot .u8 (a1 : Int) 3 = (b1 : Int) := hb3
    clear hb1 hb3 ha1 hb2 hlt hs1 hsa hsb
    go_enter Try.func9, Try.ntmps9
    go_upto_region 9 with (go_at_call 37; refine (HQ1.out _ _ (by simp)).mono ?_; rintro e w1 ⟨rfl, hb1⟩; (have HB1 := Lib.hid (HB.out.trans (hb1.mono HB.out.size))); (have HX1 := Lib.hid (HX.out.below hb1)); clear hb1 HQ1; (unfold stA); dsimp only)
    refine wp_at fun W1 hW1 => ?_
    have HA2 := Lib.hid (show OB w1.heap.size (a1, s.2) W1 from hW1 ▸ OB.mk w1 (a1, s.2))
    have HX2 := Lib.hid (show OB w.heap.size s W1 from hW1 ▸ blk_alloc HX1.out _)
    have HB2 := Lib.hid (show Below w.heap.size w W1 from hW1 ▸ HB1.out.alloc HB1.out.size _)
    clear hW1 HX1 HB1 HX HB
    have k0 := HA2.out.c0
    have k1 := HA2.out.c1
    have k2 := HA2.out.c2
    dsimp only at k0 k1 k2
    go_upto_region 10 with (go_at_call 37; refine (HQ2.out _ _ (by simp)).mono ?_; rintro e w2 ⟨rfl, hb1⟩; (have HB3 := Lib.hid (HB2.out.trans (hb1.mono HB2.out.size))); (have HX3 := Lib.hid (HX2.out.below hb1)); (have HA3 := Lib.hid (HA2.out.below hb1)); clear hb1 HQ2 k0 k1 k2; (unfold stA); dsimp only)
    refine wp_at fun W3 hW3 => ?_
    have HC4 := Lib.hid (show OB w2.heap.size (b1, s.2) W3 from hW3 ▸ OB.mk w2 (b1, s.2))
    have HX4 := Lib.hid (show OB w.heap.size s W3 from hW3 ▸ blk_alloc HX3.out _)
    have HA4 := Lib.hid (show OB w1.heap.size (a1, s.2) W3 from hW3 ▸ blk_alloc HA3.out _)
    have HB4 := Lib.hid (show Below w.heap.size w W3 from hW3 ▸ HB3.out.alloc HB3.out.size _)
    clear hW3 HX3 HA3 HB3 HX2 HA2 HB2
    go_wp2_with (go_at_call 30; refine (alive_any _).mono ?_; rintro e w4 ⟨rfl, hb1⟩; (have x5 := HX4.out.below hb1); (have a5 := HA4.out.below hb1); (have c5 := HC4.out.below hb1); (have HB5 := Lib.hid (HB4.out.trans (hb1.mono HB4.out.size))); clear hb1; (have x0 := x5.c0); (have x1 := x5.c1); (have x2 := x5.c2); (have y0 := a5.c0); (have y1 := a5.c1); (have y2 := a5.c2); (have v0 := c5.c0); (have v1 := c5.c1); (have v2 := c5.c2); clear x5 a5 c5; dsimp only at y0 y1 y2 v0 v1 v2)
    go_ret
    exact ⟨rfl, HB5.out⟩
  · obtain ⟨a1, ha1⟩ : ∃ a, s.1 ||| 2 = a := ⟨_, rfl⟩
    have hb1 := u8or s.1 2 hs1 (by decide)
    rw [ha1] at hb1
    have hlt : a1 < 256 := by rw [← ha1]; exact Nat.or_lt_two_pow (n := 8) hs1 (by decide)
    obtain ⟨b1, hb2⟩ : ∃ b, a1 &&& 252 = b := ⟨_, rfl⟩
    have hb3 := u8_andNot_nat a1 3 hlt (by decide)
    rw [show 255 - 3 = 252 from rfl, hb2] at hb3
    have HQ1 := Lib.hid (fun W g (hg : g = W.heap.size) => change_lit s (a1, s.2) [2] W g hg HS.out (by decide) (by rw [chg_one s (by omega), ← ha1]; rfl))
    have HQ2 := Lib.hid (fun W g (hg : g = W.heap.size) => change_lit (a1, s.2) (b1, s.2) [22] W g hg ⟨hlt, hsa, hsb⟩ (by decide) (by rw [chg_one _ (by omega), ← hb2]; rfl))
    have hb1' : bits .or .u8 (s.1 : Int) 2 = (a1 : Int) := hb1
    have hb3' : bits .andNot .u8 (a1 : Int) 3 = (b1 : Int) := hb3
    clear hb1 hb3 ha1 hb2 hlt hs1 hsa hsb
    go_enter Try.func9, Try.ntmps9
    go_upto_region 9 with (go_at_call 37; refine (HQ1.out _ _ (by simp)).mono ?_; rintro e w1 ⟨rfl, hb1⟩; (have HB1 := Lib.hid (HB.out.trans (hb1.mono HB.out.size))); (have HX1 := Lib.hid (HX.out.below hb1)); clear hb1 HQ1; (unfold stA); dsimp only)
    refine wp_at fun W1 hW1 => ?_
    have HA2 := Lib.hid (show OB w1.heap.size (a1, s.2) W1 from hW1 ▸ OB.mk w1 (a1, s.2))
    have HX2 := Lib.hid (show OB w.heap.size s W1 from hW1 ▸ blk_alloc HX1.out _)
    have HB2 := Lib.hid (show Below w.heap.size w W1 from hW1 ▸ HB1.out.alloc HB1.out.size _)
    clear hW1 HX1 HB1 HX HB
    have k0 := HA2.out.c0
    have k1 := HA2.out.c1
    have k2 := HA2.out.c2
    dsimp only at k0 k1 k2
    go_upto_region 10 with (go_at_call 37; refine (HQ2.out _ _ (by simp)).mono ?_; rintro e w2 ⟨rfl, hb1⟩; (have HB3 := Lib.hid (HB2.out.trans (hb1.mono HB2.out.size))); (have HX3 := Lib.hid (HX2.out.below hb1)); (have HA3 := Lib.hid (HA2.out.below hb1)); clear hb1 HQ2 k0 k1 k2; (unfold stA); dsimp only)
    refine wp_at fun W3 hW3 => ?_
    have HC4 := Lib.hid (show OB w2.heap.size (b1, s.2) W3 from hW3 ▸ OB.mk w2 (b1, s.2))
    have HX4 := Lib.hid (show OB w.heap.size s W3 from hW3 ▸ blk_alloc HX3.out _)
    have HA4 := Lib.hid (show OB w1.heap.size (a1, s.2) W3 from hW3 ▸ blk_alloc HA3.out _)
    have HB4 := Lib.hid (show Below w.heap.size w W3 from hW3 ▸ HB3.out.alloc HB3.out.size _)
    clear hW3 HX3 HA3 HB3 HX2 HA2 HB2
    go_wp2_with (go_at_call 30; refine (alive_any _).mono ?_; rintro e w4 ⟨rfl, hb1⟩; (have x5 := HX4.out.below hb1); (have a5 := HA4.out.below hb1); (have c5 := HC4.out.below hb1); (have HB5 := Lib.hid (HB4.out.trans (hb1.mono HB4.out.size))); clear hb1; (have x0 := x5.c0); (have x1 := x5.c1); (have x2 := x5.c2); (have y0 := a5.c0); (have y1 := a5.c1); (have y2 := a5.c2); (have v0 := c5.c0); (have v1 := c5.c1); (have v2 := c5.c2); clear x5 a5 c5; dsimp only at y0 y1 y2 v0 v1 v2)
    go_ret
    exact ⟨rfl, HB5.out⟩
  · obtain ⟨a1, ha1⟩ : ∃ a, s.1 ||| 4 = a := ⟨_, rfl⟩
    have hb1 := u8or s.1 4 hs1 (by decide)
    rw [ha1] at hb1
    have hlt : a1 < 256 := by rw [← ha1]; exact Nat.or_lt_two_pow (n := 8) hs1 (by decide)
    obtain ⟨b1, hb2⟩ : ∃ b, a1 &&& 251 = b := ⟨_, rfl⟩
    have hb3 := u8_andNot_nat a1 4 hlt (by decide)
    rw [show 255 - 4 = 251 from rfl, hb2] at hb3
    have HQ1 := Lib.hid (fun W g (hg : g = W.heap.size) => change_lit s (a1, s.2) [3] W g hg HS.out (by decide) (by rw [chg_one s (by omega), ← ha1]; rfl))
    have HQ2 := Lib.hid (fun W g (hg : g = W.heap.size) => change_lit (a1, s.2) (b1, s.2) [23] W g hg ⟨hlt, hsa, hsb⟩ (by decide) (by rw [chg_one _ (by omega), ← hb2]; rfl))
    have hb1' : bits .or .u8 (s.1 : Int) 4 = (a1 : Int) := hb1
    have hb3' : bits .andNot .u8 (a1 : Int) 4 = (b1 : Int) := hb3
    clear hb1 hb3 ha1 hb2 hlt hs1 hsa hsb
    go_enter Try.func9, Try.ntmps9
    go_upto_region 9 with (go_at_call 37; refine (HQ1.out _ _ (by simp)).mono ?_; rintro e w1 ⟨rfl, hb1⟩; (have HB1 := Lib.hid (HB.out.trans (hb1.mono HB.out.size))); (have HX1 := Lib.hid (HX.out.below hb1)); clear hb1 HQ1; (unfold stA); dsimp only)
    refine wp_at fun W1 hW1 => ?_
    have HA2 := Lib.hid (show OB w1.heap.size (a1, s.2) W1 from hW1 ▸ OB.mk w1 (a1, s.2))
    have HX2 := Lib.hid (show OB w.heap.size s W1 from hW1 ▸ blk_alloc HX1.out _)
    have HB2 := Lib.hid (show Below w.heap.size w W1 from hW1 ▸ HB1.out.alloc HB1.out.size _)
    clear hW1 HX1 HB1 HX HB
    have k0 := HA2.out.c0
    have k1 := HA2.out.c1
    have k2 := HA2.out.c2
    dsimp only at k0 k1 k2
    go_upto_region 10 with (go_at_call 37; refine (HQ2.out _ _ (by simp)).mono ?_; rintro e w2 ⟨rfl, hb1⟩; (have HB3 := Lib.hid (HB2.out.trans (hb1.mono HB2.out.size))); (have HX3 := Lib.hid (HX2.out.below hb1)); (have HA3 := Lib.hid (HA2.out.below hb1)); clear hb1 HQ2 k0 k1 k2; (unfold stA); dsimp only)
    refine wp_at fun W3 hW3 => ?_
    have HC4 := Lib.hid (show OB w2.heap.size (b1, s.2) W3 from hW3 ▸ OB.mk w2 (b1, s.2))
    have HX4 := Lib.hid (show OB w.heap.size s W3 from hW3 ▸ blk_alloc HX3.out _)
    have HA4 := Lib.hid (show OB w1.heap.size (a1, s.2) W3 from hW3 ▸ blk_alloc HA3.out _)
    have HB4 := Lib.hid (show Below w.heap.size w W3 from hW3 ▸ HB3.out.alloc HB3.out.size _)
    clear hW3 HX3 HA3 HB3 HX2 HA2 HB2
    go_wp2_with (go_at_call 30; refine (alive_any _).mono ?_; rintro e w4 ⟨rfl, hb1⟩; (have x5 := HX4.out.below hb1); (have a5 := HA4.out.below hb1); (have c5 := HC4.out.below hb1); (have HB5 := Lib.hid (HB4.out.trans (hb1.mono HB4.out.size))); clear hb1; (have x0 := x5.c0); (have x1 := x5.c1); (have x2 := x5.c2); (have y0 := a5.c0); (have y1 := a5.c1); (have y2 := a5.c2); (have v0 := c5.c0); (have v1 := c5.c1); (have v2 := c5.c2); clear x5 a5 c5; dsimp only at y0 y1 y2 v0 v1 v2)
    go_ret
    exact ⟨rfl, HB5.out⟩
  · obtain ⟨a1, ha1⟩ : ∃ a, s.1 ||| 8 = a := ⟨_, rfl⟩
    have hb1 := u8or s.1 8 hs1 (by decide)
    rw [ha1] at hb1
    have hlt : a1 < 256 := by rw [← ha1]; exact Nat.or_lt_two_pow (n := 8) hs1 (by decide)
    obtain ⟨b1, hb2⟩ : ∃ b, a1 &&& 247 = b := ⟨_, rfl⟩
    have hb3 := u8_andNot_nat a1 8 hlt (by decide)
    rw [show 255 - 8 = 247 from rfl, hb2] at hb3
    have HQ1 := Lib.hid (fun W g (hg : g = W.heap.size) => change_lit s (a1, s.2) [4] W g hg HS.out (by decide) (by rw [chg_one s (by omega), ← ha1]; rfl))
    have HQ2 := Lib.hid (fun W g (hg : g = W.heap.size) => change_lit (a1, s.2) (b1, s.2) [24] W g hg ⟨hlt, hsa, hsb⟩ (by decide) (by rw [chg_one _ (by omega), ← hb2]; rfl))
    have hb1' : bits .or .u8 (s.1 : Int) 8 = (a1 : Int) := hb1
    have hb3' : bits .andNot .u8 (a1 : Int) 8 = (b1 : Int) := hb3
    clear hb1 hb3 ha1 hb2 hlt hs1 hsa hsb
    go_enter Try.func9, Try.ntmps9
    go_upto_region 9 with (go_at_call 37; refine (HQ1.out _ _ (by simp)).mono ?_; rintro e w1 ⟨rfl, hb1⟩; (have HB1 := Lib.hid (HB.out.trans (hb1.mono HB.out.size))); (have HX1 := Lib.hid (HX.out.below hb1)); clear hb1 HQ1; (unfold stA); dsimp only)
    refine wp_at fun W1 hW1 => ?_
    have HA2 := Lib.hid (show OB w1.heap.size (a1, s.2) W1 from hW1 ▸ OB.mk w1 (a1, s.2))
    have HX2 := Lib.hid (show OB w.heap.size s W1 from hW1 ▸ blk_alloc HX1.out _)
    have HB2 := Lib.hid (show Below w.heap.size w W1 from hW1 ▸ HB1.out.alloc HB1.out.size _)
    clear hW1 HX1 HB1 HX HB
    have k0 := HA2.out.c0
    have k1 := HA2.out.c1
    have k2 := HA2.out.c2
    dsimp only at k0 k1 k2
    go_upto_region 10 with (go_at_call 37; refine (HQ2.out _ _ (by simp)).mono ?_; rintro e w2 ⟨rfl, hb1⟩; (have HB3 := Lib.hid (HB2.out.trans (hb1.mono HB2.out.size))); (have HX3 := Lib.hid (HX2.out.below hb1)); (have HA3 := Lib.hid (HA2.out.below hb1)); clear hb1 HQ2 k0 k1 k2; (unfold stA); dsimp only)
    refine wp_at fun W3 hW3 => ?_
    have HC4 := Lib.hid (show OB w2.heap.size (b1, s.2) W3 from hW3 ▸ OB.mk w2 (b1, s.2))
    have HX4 := Lib.hid (show OB w.heap.size s W3 from hW3 ▸ blk_alloc HX3.out _)
    have HA4 := Lib.hid (show OB w1.heap.size (a1, s.2) W3 from hW3 ▸ blk_alloc HA3.out _)
    have HB4 := Lib.hid (show Below w.heap.size w W3 from hW3 ▸ HB3.out.alloc HB3.out.size _)
    clear hW3 HX3 HA3 HB3 HX2 HA2 HB2
    go_wp2_with (go_at_call 30; refine (alive_any _).mono ?_; rintro e w4 ⟨rfl, hb1⟩; (have x5 := HX4.out.below hb1); (have a5 := HA4.out.below hb1); (have c5 := HC4.out.below hb1); (have HB5 := Lib.hid (HB4.out.trans (hb1.mono HB4.out.size))); clear hb1; (have x0 := x5.c0); (have x1 := x5.c1); (have x2 := x5.c2); (have y0 := a5.c0); (have y1 := a5.c1); (have y2 := a5.c2); (have v0 := c5.c0); (have v1 := c5.c1); (have v2 := c5.c2); clear x5 a5 c5; dsimp only at y0 y1 y2 v0 v1 v2)
    go_ret
    exact ⟨rfl, HB5.out⟩
  · obtain ⟨a1, ha1⟩ : ∃ a, s.1 ||| 16 = a := ⟨_, rfl⟩
    have hb1 := u8or s.1 16 hs1 (by decide)
    rw [ha1] at hb1
    have hlt : a1 < 256 := by rw [← ha1]; exact Nat.or_lt_two_pow (n := 8) hs1 (by decide)
    obtain ⟨b1, hb2⟩ : ∃ b, a1 &&& 239 = b := ⟨_, rfl⟩
    have hb3 := u8_andNot_nat a1 16 hlt (by decide)
    rw [show 255 - 16 = 239 from rfl, hb2] at hb3
    have HQ1 := Lib.hid (fun W g (hg : g = W.heap.size) => change_lit s (a1, s.2) [5] W g hg HS.out (by decide) (by rw [chg_one s (by omega), ← ha1]; rfl))
    have HQ2 := Lib.hid (fun W g (hg : g = W.heap.size) => change_lit (a1, s.2) (b1, s.2) [25] W g hg ⟨hlt, hsa, hsb⟩ (by decide) (by rw [chg_one _ (by omega), ← hb2]; rfl))
    have hb1' : bits .or .u8 (s.1 : Int) 16 = (a1 : Int) := hb1
    have hb3' : bits .andNot .u8 (a1 : Int) 16 = (b1 : Int) := hb3
    clear hb1 hb3 ha1 hb2 hlt hs1 hsa hsb
    go_enter Try.func9, Try.ntmps9
    go_upto_region 9 with (go_at_call 37; refine (HQ1.out _ _ (by simp)).mono ?_; rintro e w1 ⟨rfl, hb1⟩; (have HB1 := Lib.hid (HB.out.trans (hb1.mono HB.out.size))); (have HX1 := Lib.hid (HX.out.below hb1)); clear hb1 HQ1; (unfold stA); dsimp only)
    refine wp_at fun W1 hW1 => ?_
    have HA2 := Lib.hid (show OB w1.heap.size (a1, s.2) W1 from hW1 ▸ OB.mk w1 (a1, s.2))
    have HX2 := Lib.hid (show OB w.heap.size s W1 from hW1 ▸ blk_alloc HX1.out _)
    have HB2 := Lib.hid (show Below w.heap.size w W1 from hW1 ▸ HB1.out.alloc HB1.out.size _)
    clear hW1 HX1 HB1 HX HB
    have k0 := HA2.out.c0
    have k1 := HA2.out.c1
    have k2 := HA2.out.c2
    dsimp only at k0 k1 k2
    go_upto_region 10 with (go_at_call 37; refine (HQ2.out _ _ (by simp)).mono ?_; rintro e w2 ⟨rfl, hb1⟩; (have HB3 := Lib.hid (HB2.out.trans (hb1.mono HB2.out.size))); (have HX3 := Lib.hid (HX2.out.below hb1)); (have HA3 := Lib.hid (HA2.out.below hb1)); clear hb1 HQ2 k0 k1 k2; (unfold stA); dsimp only)
    refine wp_at fun W3 hW3 => ?_
    have HC4 := Lib.hid (show OB w2.heap.size (b1, s.2) W3 from hW3 ▸ OB.mk w2 (b1, s.2))
    have HX4 := Lib.hid (show OB w.heap.size s W3 from hW3 ▸ blk_alloc HX3.out _)
    have HA4 := Lib.hid (show OB w1.heap.size (a1, s.2) W3 from hW3 ▸ blk_alloc HA3.out _)
    have HB4 := Lib.hid (show Below w.heap.size w W3 from hW3 ▸ HB3.out.alloc HB3.out.size _)
    clear hW3 HX3 HA3 HB3 HX2 HA2 HB2
    go_wp2_with (go_at_call 30; refine (alive_any _).mono ?_; rintro e w4 ⟨rfl, hb1⟩; (have x5 := HX4.out.below hb1); (have a5 := HA4.out.below hb1); (have c5 := HC4.out.below hb1); (have HB5 := Lib.hid (HB4.out.trans (hb1.mono HB4.out.size))); clear hb1; (have x0 := x5.c0); (have x1 := x5.c1); (have x2 := x5.c2); (have y0 := a5.c0); (have y1 := a5.c1); (have y2 := a5.c2); (have v0 := c5.c0); (have v1 := c5.c1); (have v2 := c5.c2); clear x5 a5 c5; dsimp only at y0 y1 y2 v0 v1 v2)
    go_ret
    exact ⟨rfl, HB5.out⟩
  · obtain ⟨a1, ha1⟩ : ∃ a, s.1 ||| 32 = a := ⟨_, rfl⟩
    have hb1 := u8or s.1 32 hs1 (by decide)
    rw [ha1] at hb1
    have hlt : a1 < 256 := by rw [← ha1]; exact Nat.or_lt_two_pow (n := 8) hs1 (by decide)
    obtain ⟨b1, hb2⟩ : ∃ b, a1 &&& 223 = b := ⟨_, rfl⟩
    have hb3 := u8_andNot_nat a1 32 hlt (by decide)
    rw [show 255 - 32 = 223 from rfl, hb2] at hb3
    have HQ1 := Lib.hid (fun W g (hg : g = W.heap.size) => change_lit s (a1, s.2) [7] W g hg HS.out (by decide) (by rw [chg_one s (by omega), ← ha1]; rfl))
    have HQ2 := Lib.hid (fun W g (hg : g = W.heap.size) => change_lit (a1, s.2) (b1, s.2) [27] W g hg ⟨hlt, hsa, hsb⟩ (by decide) (by rw [chg_one _ (by omega), ← hb2]; rfl))
    have hb1' : bits .or .u8 (s.1 : Int) 32 = (a1 : Int) := hb1
    have hb3' : bits .andNot .u8 (a1 : Int) 32 = (b1 : Int) := hb3
    clear hb1 hb3 ha1 hb2 hlt hs1 hsa hsb
    go_enter Try.func9, Try.ntmps9
    go_upto_region 9 with (go_at_call 37; refine (HQ1.out _ _ (by simp)).mono ?_; rintro e w1 ⟨rfl, hb1⟩; (have HB1 := Lib.hid (HB.out.trans (hb1.mono HB.out.size))); (have HX1 := Lib.hid (HX.out.below hb1)); clear hb1 HQ1; (unfold stA); dsimp only)
    refine wp_at fun W1 hW1 => ?_
    have HA2 := Lib.hid (show OB w1.heap.size (a1, s.2) W1 from hW1 ▸ OB.mk w1 (a1, s.2))
    have HX2 := Lib.hid (show OB w.heap.size s W1 from hW1 ▸ blk_alloc HX1.out _)
    have HB2 := Lib.hid (show Below w.heap.size w W1 from hW1 ▸ HB1.out.alloc HB1.out.size _)
    clear hW1 HX1 HB1 HX HB
    have k0 := HA2.out.c0
    have k1 := HA2.out.c1
    have k2 := HA2.out.c2
    dsimp only at k0 k1 k2
    go_upto_region 10 with (go_at_call 37; refine (HQ2.out _ _ (by simp)).mono ?_; rintro e w2 ⟨rfl, hb1⟩; (have HB3 := Lib.hid (HB2.out.trans (hb1.mono HB2.out.size))); (have HX3 := Lib.hid (HX2.out.below hb1)); (have HA3 := Lib.hid (HA2.out.below hb1)); clear hb1 HQ2 k0 k1 k2; (unfold stA); dsimp only)
    refine wp_at fun W3 hW3 => ?_
    have HC4 := Lib.hid (show OB w2.heap.size (b1, s.2) W3 from hW3 ▸ OB.mk w2 (b1, s.2))
    have HX4 := Lib.hid (show OB w.heap.size s W3 from hW3 ▸ blk_alloc HX3.out _)
    have HA4 := Lib.hid (show OB w1.heap.size (a1, s.2) W3 from hW3 ▸ blk_alloc HA3.out _)
    have HB4 := Lib.hid (show Below w.heap.size w W3 from hW3 ▸ HB3.out.alloc HB3.out.size _)
    clear hW3 HX3 HA3 HB3 HX2 HA2 HB2
    go_wp2_with (go_at_call 30; refine (alive_any _).mono ?_; rintro e w4 ⟨rfl, hb1⟩; (have x5 := HX4.out.below hb1); (have a5 := HA4.out.below hb1); (have c5 := HC4.out.below hb1); (have HB5 := Lib.hid (HB4.out.trans (hb1.mono HB4.out.size))); clear hb1; (have x0 := x5.c0); (have x1 := x5.c1); (have x2 := x5.c2); (have y0 := a5.c0); (have y1 := a5.c1); (have y2 := a5.c2); (have v0 := c5.c0); (have v1 := c5.c1); (have v2 := c5.c2); clear x5 a5 c5; dsimp only at y0 y1 y2 v0 v1 v2)
    go_ret
    exact ⟨rfl, HB5.out⟩
  · obtain ⟨a1, ha1⟩ : ∃ a, s.1 ||| 64 = a := ⟨_, rfl⟩
    have hb1 := u8or s.1 64 hs1 (by decide)
    rw [ha1] at hb1
    have hlt : a1 < 256 := by rw [← ha1]; exact Nat.or_lt_two_pow (n := 8) hs1 (by decide)
    obtain ⟨b1, hb2⟩ : ∃ b, a1 &&& 191 = b := ⟨_, rfl⟩
    have hb3 := u8_andNot_nat a1 64 hlt (by decide)
    rw [show 255 - 64 = 191 from rfl, hb2] at hb3
    have HQ1 := Lib.hid (fun W g (hg : g = W.heap.size) => change_lit s (a1, s.2) [8] W g hg HS.out (by decide) (by rw [chg_one s (by omega), ← ha1]; rfl))
    have HQ2 := Lib.hid (fun W g (hg : g = W.heap.size) => change_lit (a1, s.2) (b1, s.2) [28] W g hg ⟨hlt, hsa, hsb⟩ (by decide) (by rw [chg_one _ (by omega), ← hb2]; rfl))
    have hb1' : bits .or .u8 (s.1 : Int) 64 = (a1 : Int) := hb1
    have hb3' : bits .andNot .u8 (a1 : Int) 64 = (b1 : Int) := hb3
    clear hb1 hb3 ha1 hb2 hlt hs1 hsa hsb
    go_enter Try.func9, Try.ntmps9
    go_upto_region 9 with (go_at_call 37; refine (HQ1.out _ _ (by simp)).mono ?_; rintro e w1 ⟨rfl, hb1⟩; (have HB1 := Lib.hid (HB.out.trans (hb1.mono HB.out.size))); (have HX1 := Lib.hid (HX.out.below hb1)); clear hb1 HQ1; (unfold stA); dsimp only)
    refine wp_at fun W1 hW1 => ?_
    have HA2 := Lib.hid (show OB w1.heap.size (a1, s.2) W1 from hW1 ▸ OB.mk w1 (a1, s.2))
    have HX2 := Lib.hid (show OB w.heap.size s W1 from hW1 ▸ blk_alloc HX1.out _)
    have HB2 := Lib.hid (show Below w.heap.size w W1 from hW1 ▸ HB1.out.alloc HB1.out.size _)
    clear hW1 HX1 HB1 HX HB
    have k0 := HA2.out.c0
    have k1 := HA2.out.c1
    have k2 := HA2.out.c2
    dsimp only at k0 k1 k2
    go_upto_region 10 with (go_at_call 37; refine (HQ2.out _ _ (by simp)).mono ?_; rintro e w2 ⟨rfl, hb1⟩; (have HB3 := Lib.hid (HB2.out.trans (hb1.mono HB2.out.size))); (have HX3 := Lib.hid (HX2.out.below hb1)); (have HA3 := Lib.hid (HA2.out.below hb1)); clear hb1 HQ2 k0 k1 k2; (unfold stA); dsimp only)
    refine wp_at fun W3 hW3 => ?_
    have HC4 := Lib.hid (show OB w2.heap.size (b1, s.2) W3 from hW3 ▸ OB.mk w2 (b1, s.2))
    have HX4 := Lib.hid (show OB w.heap.size s W3 from hW3 ▸ blk_alloc HX3.out _)
    have HA4 := Lib.hid (show OB w1.heap.size (a1, s.2) W3 from hW3 ▸ blk_alloc HA3.out _)
    have HB4 := Lib.hid (show Below w.heap.size w W3 from hW3 ▸ HB3.out.alloc HB3.out.size _)
    clear hW3 HX3 HA3 HB3 HX2 HA2 HB2
    go_wp2_with (go_at_call 30; refine (alive_any _).mono ?_; rintro e w4 ⟨rfl, hb1⟩; (have x5 := HX4.out.below hb1); (have a5 := HA4.out.below hb1); (have c5 := HC4.out.below hb1); (have HB5 := Lib.hid (HB4.out.trans (hb1.mono HB4.out.size))); clear hb1; (have x0 := x5.c0); (have x1 := x5.c1); (have x2 := x5.c2); (have y0 := a5.c0); (have y1 := a5.c1); (have y2 := a5.c2); (have v0 := c5.c0); (have v1 := c5.c1); (have v2 := c5.c2); clear x5 a5 c5; dsimp only at y0 y1 y2 v0 v1 v2)
    go_ret
    exact ⟨rfl, HB5.out⟩
  · obtain ⟨a1, ha1⟩ : ∃ a, s.1 ||| 128 = a := ⟨_, rfl⟩
    have hb1 := u8or s.1 128 hs1 (by decide)
    rw [ha1] at hb1
    have hlt : a1 < 256 := by rw [← ha1]; exact Nat.or_lt_two_pow (n := 8) hs1 (by decide)
    obtain ⟨b1, hb2⟩ : ∃ b, a1 &&& 127 = b := ⟨_, rfl⟩
    have hb3 := u8_andNot_nat a1 128 hlt (by decide)
    rw [show 255 - 128 = 127 from rfl, hb2] at hb3
    have HQ1 := Lib.hid (fun W g (hg : g = W.heap.size) => change_lit s (a1, s.2) [9] W g hg HS.out (by decide) (by rw [chg_one s (by omega), ← ha1]; rfl))
    have HQ2 := Lib.hid (fun W g (hg : g = W.heap.size) => change_lit (a1, s.2) (b1, s.2) [29] W g hg ⟨hlt, hsa, hsb⟩ (by decide) (by rw [chg_one _ (by omega), ← hb2]; rfl))
    have hb1' : bits .or .u8 (s.1 : Int) 128 = (a1 : Int) := hb1
    have hb3' : bits .andNot .u8 (a1 : Int) 128 = (b1 : Int) := hb3
    clear hb1 hb3 ha1 hb2 hlt hs1 hsa hsb
    go_enter Try.func9, Try.ntmps9
    go_upto_region 9 with (go_at_call 37; refine (HQ1.out _ _ (by simp)).mono ?_; rintro e w1 ⟨rfl, hb1⟩; (have HB1 := Lib.hid (HB.out.trans (hb1.mono HB.out.size))); (have HX1 := Lib.hid (HX.out.below hb1)); clear hb1 HQ1; (unfold stA); dsimp only)
    refine wp_at fun W1 hW1 => ?_
    have HA2 := Lib.hid (show OB w1.heap.size (a1, s.2) W1 from hW1 ▸ OB.mk w1 (a1, s.2))
    have HX2 := Lib.hid (show OB w.heap.size s W1 from hW1 ▸ blk_alloc HX1.out _)
    have HB2 := Lib.hid (show Below w.heap.size w W1 from hW1 ▸ HB1.out.alloc HB1.out.size _)
    clear hW1 HX1 HB1 HX HB
    have k0 := HA2.out.c0
    have k1 := HA2.out.c1
    have k2 := HA2.out.c2
    dsimp only at k0 k1 k2
    go_upto_region 10 with (go_at_call 37; refine (HQ2.out _ _ (by simp)).mono ?_; rintro e w2 ⟨rfl, hb1⟩; (have HB3 := Lib.hid (HB2.out.trans (hb1.mono HB2.out.size))); (have HX3 := Lib.hid (HX2.out.below hb1)); (have HA3 := Lib.hid (HA2.out.below hb1)); clear hb1 HQ2 k0 k1 k2; (unfold stA); dsimp only)
    refine wp_at fun W3 hW3 => ?_
    have HC4 := Lib.hid (show OB w2.heap.size (b1, s.2) W3 from hW3 ▸ OB.mk w2 (b1, s.2))
    have HX4 := Lib.hid (show OB w.heap.size s W3 from hW3 ▸ blk_alloc HX3.out _)
    have HA4 := Lib.hid (show OB w1.heap.size (a1, s.2) W3 from hW3 ▸ blk_alloc HA3.out _)
    have HB4 := Lib.hid (show Below w.heap.size w W3 from hW3 ▸ HB3.out.alloc HB3.out.size _)
    clear hW3 HX3 HA3 HB3 HX2 HA2 HB2
    go_wp2_with (go_at_call 30; refine (alive_any _).mono ?_; rintro e w4 ⟨rfl, hb1⟩; (have x5 := HX4.out.below hb1); (have a5 := HA4.out.below hb1); (have c5 := HC4.out.below hb1); (have HB5 := Lib.hid (HB4.out.trans (hb1.mono HB4.out.size))); clear hb1; (have x0 := x5.c0); (have x1 := x5.c1); (have x2 := x5.c2); (have y0 := a5.c0); (have y1 := a5.c1); (have y2 := a5.c2); (have v0 := c5.c0); (have v1 := c5.c1); (have v2 := c5.c2); clear x5 a5 c5; dsimp only at y0 y1 y2 v0 v1 v2)
    go_ret
    exact ⟨rfl, HB5.out⟩
theorem flags_int (s : Sty) (v : Int) (w : World) (hs : okS s) (hv : 0 ≤ v ∧ v < 256) :
    Calls Try.prog 9 #[.agg (stA s), .int .u8 v] w fun e w' => e = .returned (.bool true) ∧ Below w.heap.size w w' := by
  obtain ⟨n, rfl⟩ := Int.eq_ofNat_of_zero_le hv.1
  exact flags_walk s n w hs (by omega)
end Go.Proofs.Ythgdbdhonhkkpaa.St
