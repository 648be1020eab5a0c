/-
  style: the law of a style's bytes.
-/
import Derived.Test.YthgdbdhonhkkpaaTo
import Derived.Test.YthgdbdhonhkkpaaTj
import Derived.Test.YthgdbdhonhkkpaaTk
import Derived.Test.YthgdbdhonhkkpaaTq
namespace Go.Proofs.Ythgdbdhonhkkpaa.St
open Go.RowKit Go.Proofs.Ythgdbdhonhkkpaa.L Go.Proofs.Ythgdbdhonhkkpaa.V Go.Proofs.Ythgdbdhonhkkpaa.N Go.Proofs.YthgdbdhonhkkpaaW.PrintWords

theorem rdR_ok {l : List Int} (hl : okB l) (i : Int) : okS (rdR l i).1 := by
  have z : okS (0, 0, 0) := ok0
  unfold rdR
  split
  · exact z
  split
  · exact z
  split
  · exact z
  split
  · exact z
  split
  · exact z
  rename_i h
  split
  · have h0 := hl.at_ i.toNat
    refine ⟨?_, ?_, ?_⟩ <;> dsimp only <;> omega
  · exact z
set_option maxRecDepth 100000 in
set_option maxHeartbeats 6400000 in
theorem bytes_walk (s : Sty) (l : List Int) (A : Option Addr) (c : Nat) (i : Int) (w : World) (hs : okS s) (hC : (Kd.int .u8).C w A l.length l) (hc : l.length ≤ c) (hl : okB l) :
    Calls Try.prog 7 #[.agg (stA s), .slice A l.length c, .int .i64 i] w fun e w' => e = .returned (.bool true) ∧ Below w.heap.size w w' := by
  have hX := OB.mk w s
  have hB : Below w.heap.size w (w.alloc (.cells (stA s) tS)) := (Below.refl _ _).alloc (Nat.le_refl _) _
  rw [show (Value.agg (stA s)) = .agg #[.int .u8 (s.1 : Int), .int .u32 (s.2.1 : Int), .int .u32 (s.2.2 : Int)] from rfl]
  by_cases hg : 1000 < l.length
  · have t1 : decide ((1000 : Int) < (l.length : Int)) = true := decide_eq_true (by omega)
    have t1n : decide (1000 < l.length) = true := decide_eq_true hg
    have HB := Lib.hid hB
    clear hX hB hC hc hl hg hs
    go_enter Try.func7, Try.ntmps7
    go_wp2_with (go_at_call 30; refine (alive_any _).mono ?_; rintro e w1 ⟨rfl, hb1⟩; (have HB1 := Lib.hid (HB.out.trans (hb1.mono HB.out.size))); clear hb1)
    go_ret
    exact ⟨rfl, HB1.out⟩
  have t1 : decide ((1000 : Int) < (l.length : Int)) = false := decide_eq_false (by omega)
  have t1n : decide (1000 < l.length) = false := decide_eq_false hg
  have z1 : (l.length : Int) ≤ 1000 := by omega
  have HX := Lib.hid hX
  have HB := Lib.hid hB
  have HC := Lib.hid hC
  have HK := Lib.hid hc
  have HL := Lib.hid hl
  have HS := Lib.hid hs
  have HPo := Lib.hid (rdR_ok hl i)
  obtain ⟨⟨p, n, er⟩, hp⟩ : ∃ p, rdR l i = p := ⟨_, rfl⟩
  have HRd : Hid (∀ W : World, Below w.heap.size w W → Calls Try.prog 32 #[.slice A l.length c, .int .i64 i] W fun e w' => e = .returned (.tuple #[.agg (stA p), .int .i64 n, .int .i64 er]) ∧ Below W.heap.size W w') :=
    Lib.hid (fun W hb => (read_any l A c i W (Kd.C_below HC.out hb) HK.out HL.out).mono fun e w' ⟨h1, h2⟩ => ⟨by rw [h1, hp]; rfl, h2⟩)
  have HRr : Hid (∀ W : World, Below w.heap.size w W → Calls Try.prog 33 #[.slice A l.length c, .int .i64 i] W fun e w' => e = .returned (.tuple #[.agg (rsA p), .int .i64 n, .int .i64 er]) ∧ Below W.heap.size W w') :=
    Lib.hid (fun W hb => (rread_any l A c i W (Kd.C_below HC.out hb) HK.out HL.out).mono fun e w' ⟨h1, h2⟩ => ⟨by rw [h1, hp]; rfl, h2⟩)
  rw [hp] at HPo
  clear hX hB hC hc hl hg hs hp
  have hq := write_any s (w.alloc (.cells (stA s) tS))
  by_cases hr : rightB s = true
  · rw [show wrE s = 0 from if_pos hr] at hq
    have HQ := Lib.hid hq
    have HRi := Lib.hid hr
    clear hq hr
    go_enter Try.func7, Try.ntmps7
    go_upto_region 4 with (go_at_call 31; refine HQ.out.mono ?_; rintro e w2 ⟨v, rfl, hv, hb2⟩; obtain ⟨A2, q2, rfl, hq2, hC2⟩ := Kd.R_reads hv; (have HC2 := Lib.hid hC2); (have HX2 := Lib.hid (HX.out.below hb2)); (have HB2 := Lib.hid (HB.out.trans (hb2.mono HB.out.size))); clear hv hb2 hq2 hC2 HQ)
    obtain ⟨yl, hyl⟩ : ∃ n, (wrL s).length = n := ⟨_, rfl⟩
    rw [hyl] at HC2 ⊢
    have HYl := Lib.hid hyl
    clear hyl
    go_upto_region 5 with (go_at_call 32; refine (HRd.out _ HB2.out).mono ?_; rintro e w3 ⟨rfl, hb3⟩; (have HX3 := Lib.hid (HX2.out.below hb3)); (have HC3 := Lib.hid (Kd.C_below HC2.out hb3)); (have HB3 := Lib.hid (HB2.out.trans (hb3.mono HB2.out.size))); clear hb3; (unfold stA); dsimp only)
    refine wp_at fun W3 hW3 => ?_
    have HY4 := Lib.hid (show OB w3.heap.size p W3 from hW3 ▸ OB.mk w3 p)
    have HX4 := Lib.hid (show OB w.heap.size s W3 from hW3 ▸ blk_alloc HX3.out _)
    have HB4 := Lib.hid (show Below w.heap.size w W3 from hW3 ▸ HB3.out.alloc HB3.out.size _)
    have HC4 := Lib.hid (show (Kd.int .u8).C W3 A2 yl (wrL s) from hW3 ▸ Kd.C_alloc HC3.out _)
    clear hW3 HX3 HB3 HC3 HX2 HB2 HC2
    go_upto_region 6 with (first
      | (go_at_call 33; refine (HRr.out _ HB4.out).mono ?_; rintro e w5 ⟨rfl, hb5⟩; (have HX5 := Lib.hid (HX4.out.below hb5)); (have HY5 := Lib.hid (HY4.out.below hb5)); (have HC5 := Lib.hid (Kd.C_below HC4.out hb5)); (have HB5 := Lib.hid (HB4.out.trans (hb5.mono HB4.out.size))); clear hb5)
      | (refine store_obj w5.heap.size (rfA f8 0 0) (rsA p) rfl rfl rfl rfl rfl (RO.mk w5 f8 0 0) (by rw [rsA, rfA_size (blN_len _)]; exact info_R) (by rw [rsA, rfA_size (blN_len _), rfA_size rfl]) (rfA_one _ _ _) ?_; intro w6 h6 hg6; (have H6 := Lib.hid (show RO w5.heap.size (blN p.1) p.2.1 p.2.2 w6 from h6)); (have hb6 : Below w5.heap.size w5 w6 := below_grown ((Below.refl _ _).alloc (Nat.le_refl _) _) (by simp) hg6 (Nat.le_refl _)); (have HX6 := Lib.hid (HX5.out.below hb6)); (have HY6 := Lib.hid (HY5.out.below hb6)); (have HC6 := Lib.hid (Kd.C_below HC5.out hb6)); (have HB6 := Lib.hid (HB5.out.trans (hb6.mono HB5.out.size))); clear h6 hg6 hb6 HX5 HY5 HC5 HB5))
    clear HX4 HY4 HC4 HB4 HRd HRr
    have HYd := Lib.hid (HY6.out.drew)
    have HHd := Lib.hid (show RO w5.heap.size (blN p.1) p.2.1 p.2.2 w6.drew from H6.out)
    refine Q.wp_region_segs none [([0, 2], some 1), ([3, 4, 5, 6, 7, 8, 9, 10, 11, 12, 13], none)] (by kernel_rfl) (by kernel_rfl) (by kernel_rfl) (by kernel_rfl) ?_
    dsimp only [Q.wpSegs, Q.picks, Q.pick]
    refine quiet_loadG tS (.tmp 9) (.pointer (some ⟨w3.heap.size, 0, none⟩)) (.agg #[.int .u8 (p.1 : Int), .int .u32 (p.2.1 : Int), .int .u32 (p.2.2 : Int)]) rfl rfl rfl (HYd.out.loadQ (by exact HY6.out.lt)) ?_
    go_simp
    refine quiet_loadG tR (.tmp 12) (.pointer (some ⟨w5.heap.size, 0, none⟩)) (.agg (rfA (blN p.1) p.2.1 p.2.2)) rfl rfl rfl (HHd.out.loadQ (blN_len _) (by exact H6.out.lt)) ?_
    go_simp
    repeat (go_big_quiet_step (fail))
    refine wpQuiet_nil ?_
    go_wp2_with (go_at_call 34; refine (ras_any p _ HPo.out.1).mono ?_; rintro e w7 ⟨rfl, hb7⟩; (have hb0 := (stay1 (stay0 w6) hb7)); (have HX7 := Lib.hid (HX6.out.below hb0)); (have HC7 := Lib.hid (Kd.C_below HC6.out hb0)); (have HB7 := Lib.hid (HB6.out.trans (hb0.mono HB6.out.size))); (have Hb7 := Lib.hid hb7); clear hb7 hb0)
    refine Q.ev_done Hb7.out (Nat.le_refl _) ?_
    clear Hb7 HX6 HY6 HC6 HB6 H6 HYd HHd
    rw [show rsA p = rfA (blN p.1) p.2.1 p.2.2 from rfl]
    have heq := fun W => eq_R (blN_len p.1) p.2.1 p.2.2 W
    repeat (go_big_quiet_step (fail))
    refine wpQuiet_nil ?_
    refine NoPanic.normal ?_
    clear heq
    have c0 := HX7.out.c0
    have c1 := HX7.out.c1
    have c2 := HX7.out.c2
    have hq := rright_any s
    rw [HRi.out] at hq
    have HQ := Lib.hid hq
    clear hq
    go_upto_region 10 with (first
      | (go_at_call 34; refine (ras_any s _ HS.out.1).mono ?_; rintro e w8 ⟨rfl, hb8⟩; (have HX8 := Lib.hid (HX7.out.below hb8)); (have HC8 := Lib.hid (Kd.C_below HC7.out hb8)); (have HB8 := Lib.hid (HB7.out.trans (hb8.mono HB7.out.size))); clear hb8 c0 c1 c2)
      | (go_at_call 35; refine (HQ.out _ HS.out).mono ?_; rintro e w9 ⟨rfl, hb9⟩; (have HX9 := Lib.hid (HX8.out.below hb9)); (have HC9 := Lib.hid (Kd.C_below HC8.out hb9)); (have HB9 := Lib.hid (HB8.out.trans (hb9.mono HB8.out.size))); clear hb9 HQ HX8 HC8 HB8))
    have HXd := Lib.hid HX9.out.drew
    refine Q.wp_region_segs none [([], some 0), ([1, 2, 3, 4, 5, 6, 7, 8], some 9), ([], some 10), ([11, 12, 13, 14], none)] (by kernel_rfl) (by kernel_rfl) (by kernel_rfl) (by kernel_rfl) ?_
    dsimp only [Q.wpSegs, Q.picks, Q.pick]
    refine wpQuiet_nil ?_
    go_wp2_with (go_at_call 30; refine (alive_any _).mono ?_; rintro e Y1 ⟨rfl, hb⟩; (have hb0 := stay1 (stay0 w9) hb); (have HX10 := Lib.hid (HX9.out.below hb0)); (have HC10 := Lib.hid (Kd.C_below HC9.out hb0)); (have HB10 := Lib.hid (HB9.out.trans (hb0.mono HB9.out.size))); (have Hb := Lib.hid hb); clear hb hb0)
    refine Q.ev_done Hb.out (Nat.le_refl _) ?_
    clear Hb HXd HX9 HC9 HB9
    have q1 : ∀ n : Q.GW Y1 Y1.heap.size none, (convert 23 9 (.slice A2 yl q2)).run Try.prog n.w = .ok (.string (strOfNums (wrL s))) n.w := fun n => Kd.C_string Try.underlying23 Try.underlying5 Try.underlying9 (Kd.C_below HC10.out n.below)
    repeat (go_big_quiet_step (fail))
    refine quiet_loadG tS (.tmp 3) (.pointer (some ⟨w.heap.size, 0, none⟩)) (.agg #[.int .u8 (s.1 : Int), .int .u32 (s.2.1 : Int), .int .u32 (s.2.2 : Int)]) rfl rfl rfl (HX10.out.loadQ (by exact HX10.out.lt)) ?_
    go_simp
    repeat (go_big_quiet_step (fail))
    refine wpQuiet_nil ?_
    clear q1
    go_wp2_with (go_at_call 34; refine (ras_any s _ HS.out.1).mono ?_; rintro e Y2 ⟨rfl, hb⟩; (have HB11 := Lib.hid (HB10.out.trans (hb.mono HB10.out.size))); (have Hb := Lib.hid hb); clear hb)
    refine Q.ev_done Hb.out (Nat.le_refl _) ?_
    clear Hb HX10 HC10 HB10
    refine wpQuiet_nil ?_
    go_wp2_with (go_at_call 36; refine (rwrite_any s _ HS.out HRi.out).mono ?_; rintro e Y3 ⟨v, rfl, hv, hb⟩; obtain ⟨A9, q9, rfl, hq9, hC9⟩ := Kd.R_reads hv; (have HC9 := Lib.hid hC9); (have HB12 := Lib.hid (HB11.out.trans (hb.mono HB11.out.size))); (have Hb := Lib.hid hb); clear hb hv hq9 hC9)
    refine Q.ev_done Hb.out (Nat.le_refl _) ?_
    clear Hb HB11
    have q1 : ∀ n : Q.GW Y3 Y3.heap.size none, (convert 23 9 (.slice A9 (wrL s).length q9)).run Try.prog n.w = .ok (.string (strOfNums (wrL s))) n.w := fun n => Kd.C_string Try.underlying23 Try.underlying5 Try.underlying9 (Kd.C_below HC9.out n.below)
    repeat (go_big_quiet_step (fail))
    refine wpQuiet_nil ?_
    refine NoPanic.normal ?_
    go_wp2_with fail
    go_ret
    exact ⟨rfl, HB12.out⟩
  · rw [show wrE s = 3 from if_neg hr] at hq
    have HQ := Lib.hid hq
    have HRi := Lib.hid hr
    clear hq hr
    go_enter Try.func7, Try.ntmps7
    go_upto_region 4 with (go_at_call 31; refine HQ.out.mono ?_; rintro e w2 ⟨v, rfl, hv, hb2⟩; obtain ⟨A2, q2, rfl, hq2, hC2⟩ := Kd.R_reads hv; (have HC2 := Lib.hid hC2); (have HX2 := Lib.hid (HX.out.below hb2)); (have HB2 := Lib.hid (HB.out.trans (hb2.mono HB.out.size))); clear hv hb2 hq2 hC2 HQ)
    obtain ⟨yl, hyl⟩ : ∃ n, (wrL s).length = n := ⟨_, rfl⟩
    rw [hyl] at HC2 ⊢
    have HYl := Lib.hid hyl
    clear hyl
    go_upto_region 5 with (go_at_call 32; refine (HRd.out _ HB2.out).mono ?_; rintro e w3 ⟨rfl, hb3⟩; (have HX3 := Lib.hid (HX2.out.below hb3)); (have HC3 := Lib.hid (Kd.C_below HC2.out hb3)); (have HB3 := Lib.hid (HB2.out.trans (hb3.mono HB2.out.size))); clear hb3; (unfold stA); dsimp only)
    refine wp_at fun W3 hW3 => ?_
    have HY4 := Lib.hid (show OB w3.heap.size p W3 from hW3 ▸ OB.mk w3 p)
    have HX4 := Lib.hid (show OB w.heap.size s W3 from hW3 ▸ blk_alloc HX3.out _)
    have HB4 := Lib.hid (show Below w.heap.size w W3 from hW3 ▸ HB3.out.alloc HB3.out.size _)
    have HC4 := Lib.hid (show (Kd.int .u8).C W3 A2 yl (wrL s) from hW3 ▸ Kd.C_alloc HC3.out _)
    clear hW3 HX3 HB3 HC3 HX2 HB2 HC2
    go_upto_region 6 with (first
      | (go_at_call 33; refine (HRr.out _ HB4.out).mono ?_; rintro e w5 ⟨rfl, hb5⟩; (have HX5 := Lib.hid (HX4.out.below hb5)); (have HY5 := Lib.hid (HY4.out.below hb5)); (have HC5 := Lib.hid (Kd.C_below HC4.out hb5)); (have HB5 := Lib.hid (HB4.out.trans (hb5.mono HB4.out.size))); clear hb5)
      | (refine store_obj w5.heap.size (rfA f8 0 0) (rsA p) rfl rfl rfl rfl rfl (RO.mk w5 f8 0 0) (by rw [rsA, rfA_size (blN_len _)]; exact info_R) (by rw [rsA, rfA_size (blN_len _), rfA_size rfl]) (rfA_one _ _ _) ?_; intro w6 h6 hg6; (have H6 := Lib.hid (show RO w5.heap.size (blN p.1) p.2.1 p.2.2 w6 from h6)); (have hb6 : Below w5.heap.size w5 w6 := below_grown ((Below.refl _ _).alloc (Nat.le_refl _) _) (by simp) hg6 (Nat.le_refl _)); (have HX6 := Lib.hid (HX5.out.below hb6)); (have HY6 := Lib.hid (HY5.out.below hb6)); (have HC6 := Lib.hid (Kd.C_below HC5.out hb6)); (have HB6 := Lib.hid (HB5.out.trans (hb6.mono HB5.out.size))); clear h6 hg6 hb6 HX5 HY5 HC5 HB5))
    clear HX4 HY4 HC4 HB4 HRd HRr
    have HYd := Lib.hid (HY6.out.drew)
    have HHd := Lib.hid (show RO w5.heap.size (blN p.1) p.2.1 p.2.2 w6.drew from H6.out)
    refine Q.wp_region_segs none [([0, 2], some 1), ([3, 4, 5, 6, 7, 8, 9, 10, 11, 12, 13], none)] (by kernel_rfl) (by kernel_rfl) (by kernel_rfl) (by kernel_rfl) ?_
    dsimp only [Q.wpSegs, Q.picks, Q.pick]
    refine quiet_loadG tS (.tmp 9) (.pointer (some ⟨w3.heap.size, 0, none⟩)) (.agg #[.int .u8 (p.1 : Int), .int .u32 (p.2.1 : Int), .int .u32 (p.2.2 : Int)]) rfl rfl rfl (HYd.out.loadQ (by exact HY6.out.lt)) ?_
    go_simp
    refine quiet_loadG tR (.tmp 12) (.pointer (some ⟨w5.heap.size, 0, none⟩)) (.agg (rfA (blN p.1) p.2.1 p.2.2)) rfl rfl rfl (HHd.out.loadQ (blN_len _) (by exact H6.out.lt)) ?_
    go_simp
    repeat (go_big_quiet_step (fail))
    refine wpQuiet_nil ?_
    go_wp2_with (go_at_call 34; refine (ras_any p _ HPo.out.1).mono ?_; rintro e w7 ⟨rfl, hb7⟩; (have hb0 := (stay1 (stay0 w6) hb7)); (have HX7 := Lib.hid (HX6.out.below hb0)); (have HC7 := Lib.hid (Kd.C_below HC6.out hb0)); (have HB7 := Lib.hid (HB6.out.trans (hb0.mono HB6.out.size))); (have Hb7 := Lib.hid hb7); clear hb7 hb0)
    refine Q.ev_done Hb7.out (Nat.le_refl _) ?_
    clear Hb7 HX6 HY6 HC6 HB6 H6 HYd HHd
    rw [show rsA p = rfA (blN p.1) p.2.1 p.2.2 from rfl]
    have heq := fun W => eq_R (blN_len p.1) p.2.1 p.2.2 W
    repeat (go_big_quiet_step (fail))
    refine wpQuiet_nil ?_
    refine NoPanic.normal ?_
    clear heq
    have c0 := HX7.out.c0
    have c1 := HX7.out.c1
    have c2 := HX7.out.c2
    have hq := rright_any s
    rw [eq_false_of_ne_true HRi.out] at hq
    have HQ := Lib.hid hq
    clear hq
    have hy0 : yl = 0 := by rw [← HYl.out, show wrL s = [] from if_neg HRi.out]; rfl
    subst hy0
    go_wp2_with (first
      | (go_at_call 30; refine (alive_any _).mono ?_; rintro e w1 ⟨rfl, hb1⟩; (have HB1 := Lib.hid (HB9.out.trans (hb1.mono HB9.out.size))); clear hb1)
      | (go_at_call 34; refine (ras_any s _ HS.out.1).mono ?_; rintro e w8 ⟨rfl, hb8⟩; (have HX8 := Lib.hid (HX7.out.below hb8)); (have HC8 := Lib.hid (Kd.C_below HC7.out hb8)); (have HB8 := Lib.hid (HB7.out.trans (hb8.mono HB7.out.size))); clear hb8 c0 c1 c2)
      | (go_at_call 35; refine (HQ.out _ HS.out).mono ?_; rintro e w9 ⟨rfl, hb9⟩; (have HX9 := Lib.hid (HX8.out.below hb9)); (have HC9 := Lib.hid (Kd.C_below HC8.out hb9)); (have HB9 := Lib.hid (HB8.out.trans (hb9.mono HB8.out.size))); clear hb9 HQ HX8 HC8 HB8))
    go_ret
    exact ⟨rfl, HB1.out⟩
end Go.Proofs.Ythgdbdhonhkkpaa.St
