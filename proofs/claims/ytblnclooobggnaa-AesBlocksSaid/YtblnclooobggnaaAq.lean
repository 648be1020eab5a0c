/-
  aes: AesApart.
-/
import Derived.Test.YtblnclooobggnaaAk
import Derived.Test.YtblnclooobggnaaAp
namespace Go.Proofs.Ytblnclooobggnaa.A
open Go.RowKit Go.Proofs.Ytblnclooobggnaa.L Go.Proofs.Ytblnclooobggnaa.N Go.Proofs.YtblnclooobggnaaW.PrintWords

theorem eq_B (l m : List Nat) (hl : l.length = 16) (hm : m.length = 16) (W : World) : (Op.equalIn 10000 tB (.agg (arr .u8 l)) (.agg (arr .u8 m))).run Try.prog W = .ok (decide (l = m)) W :=
  eq_arr' Try.underlying26 Try.underlying5 info_u8s (by kernel_rfl) .u8 l m hl hm W
structure AS (key a b : List Nat) (n0 : Nat) (w ww : World) : Prop where
  k : AB .u8 27 n0 key ww
  a : AB .u8 tB (n0 + 1) a ww
  b : AB .u8 tB (n0 + 2) b ww
  g : Below n0 w ww
theorem AS.below {key a b : List Nat} {n0 : Nat} {w ww w' : World} (h : AS key a b n0 w ww) (hb : Below ww.heap.size ww w') : AS key a b n0 w w' :=
  ⟨h.k.below h.k.lt hb, h.a.below h.a.lt hb, h.b.below h.b.lt hb, h.g.trans (hb.mono (Nat.le_of_lt h.k.lt))⟩
theorem AS.grown {key a b : List Nat} {n0 c : Nat} {w ww w' : World} (h : AS key a b n0 w ww) (hg : ww.grownBy w' (some c)) (hc : n0 + 3 ≤ c) : AS key a b n0 w w' :=
  ⟨h.k.grown hg (fun e => by injection e; omega), h.a.grown hg (fun e => by injection e; omega), h.b.grown hg (fun e => by injection e; omega), below_grown h.g (Nat.le_of_lt h.k.lt) hg (by omega)⟩
theorem CU.grown {b c : Nat} {key : List Nat} {tn : Int} {w w1 : World} (h : CU b key tn w) (hg : w.grownBy w1 (some c)) (hne : b ≠ c) : CU b key tn w1 := h.keep (hg.block b h.lt (fun e => hne (by injection e)))
set_option maxRecDepth 100000 in
set_option maxHeartbeats 6400000 in
theorem apart_walk (key a b : List Nat) (x y : Int) (w : World) (hk : key.length = 16) (hk8 : ∀ z ∈ key, z < 256) (ha : a.length = 16) (ha8 : ∀ z ∈ a, z < 256) (hb : b.length = 16) (hb8 : ∀ z ∈ b, z < 256) (hx : 0 ≤ x ∧ x < 256) (hy : 0 ≤ y ∧ y < 256) :
    Calls Try.prog 4 #[.agg (arr .u8 key), .agg (arr .u8 a), .agg (arr .u8 b), .int .u8 x, .int .u8 y] w fun e w' => e = .returned (.bool true) ∧ Below w.heap.size w w' := by
  obtain ⟨nx, rfl⟩ : ∃ n : Nat, x = (n : Int) := ⟨x.toNat, by omega⟩
  obtain ⟨ny, rfl⟩ : ∃ n : Nat, y = (n : Int) := ⟨y.toNat, by omega⟩
  have HXb := Lib.hid (fun W => box_any nx W (by omega))
  have HYb := Lib.hid (fun W => box_any ny W (by omega))
  obtain ⟨F, hF⟩ : ∃ F, ((nx : Int) == (ny : Int)) = F := ⟨_, rfl⟩
  have hF2 : (((boxT.getD nx 0 : Nat) : Int) == ((boxT.getD ny 0 : Nat) : Int)) = F := by
    rw [← hF]
    by_cases h : nx = ny
    · subst h; simp
    · have h2 : ¬ boxT.getD nx 0 = boxT.getD ny 0 := fun e => h (bxv_inj (by omega) (by omega) e)
      rw [beq_eq_false_iff_ne.2 (by omega), beq_eq_false_iff_ne.2 (by omega)]
  have HK := Lib.hid hk
  have HK8 := Lib.hid hk8
  have HTa := Lib.hid (fun c W (h : CU c key 0 W) => turn_any c 0 key a W h ⟨by omega, by omega⟩ hk hk8 ha ha8)
  have HTb := Lib.hid (fun c W (h : CU c key 0 W) => turn_any c 0 key b W h ⟨by omega, by omega⟩ hk hk8 hb hb8)
  have HPl := Lib.hid (turnP_len key a)
  have HQl := Lib.hid (turnP_len key b)
  obtain ⟨E, hE⟩ : ∃ E, decide (a = b) = E := ⟨_, rfl⟩
  have hE2 : decide (turnP key a = turnP key b) = E := by
    rw [← hE]
    exact decide_eq_decide.2 ⟨fun h => turn_inj hk8 ha hb ha8 hb8 h, fun h => by rw [h]⟩
  have heq1 := eq_B (turnP key a) (turnP key b) HPl.out HQl.out
  have heq2 := eq_B a b ha hb
  rw [hE2] at heq1
  rw [hE] at heq2
  have HAl := Lib.hid ha
  have HBl := Lib.hid hb
  clear hE hE2 hk hk8 ha ha8 hb hb8 hx hy
  generalize boxT.getD nx 0 = vx at *
  generalize boxT.getD ny 0 = vy at *
  generalize turnP key a = P at *
  generalize turnP key b = R at *
  go_enter Try.func4, Try.ntmps4
  go_upto_region 1 with (fail)
  refine wp_at fun W hW => ?_
  obtain ⟨W1, hW1⟩ : ∃ W1, W1 = (w.alloc (.cells (arr .u8 key) 27)).alloc (.cells (arr .u8 a) tB) := ⟨_, rfl⟩
  have hW2 : W = W1.alloc (.cells (arr .u8 b) tB) := by rw [hW1]; exact hW
  obtain ⟨g1, g2, g3, g4⟩ := two_ab (k := .u8) (k' := .u8) key a hW1
  have gb : Below W1.heap.size W1 W := by rw [hW2]; exact (Below.refl _ _).alloc (Nat.le_refl _) _
  have HS := Lib.hid (show AS key a b w.heap.size w W from ⟨g1.below g1.lt gb, g2.below g2.lt gb, by rw [hW2, ← g4]; exact AB.mk W1 .u8 _ b, g3.trans (gb.mono (by omega))⟩)
  clear hW hW1 hW2 g1 g2 g3 g4 gb
  generalize hn : w.heap.size = n0 at *
  have Hn := Lib.hid hn
  clear hn
  refine Q.wp_region_segs none [([0, 2], some 1), ([], some 3), ([4, 5], none)] (by kernel_rfl) (by kernel_rfl) (by kernel_rfl) (by kernel_rfl) ?_
  dsimp only [Q.wpSegs, Q.picks, Q.pick]
  repeat (go_big_quiet_step (fail))
  refine quiet_loadG 27 (.tmp 5) (.pointer (some ⟨n0, 0, none⟩)) (.agg (arr .u8 key)) rfl rfl rfl ((HS.out.k.drew).loadQ Try.underlying27 (by rw [HK.out]; exact info_key)) ?_
  go_simp
  refine quiet_loadG 27 (.tmp 5) (.pointer (some ⟨n0, 0, none⟩)) (.agg (arr .u8 key)) rfl rfl rfl ((HS.out.k.drew).loadQ Try.underlying27 (by rw [HK.out]; exact info_key)) ?_
  go_simp
  refine wpQuiet_nil ?_
  have HS0 := Lib.hid (HS.out.below (Below.refl _ _).drew)
  clear HS
  go_wp2_with fail
  refine (new_any key _ HK.out).mono ?_
  rintro e w3 ⟨c, rfl, hc1, hc2, hc3⟩
  have HC1 := Lib.hid (show n0 + 3 ≤ c from by have := HS0.out.b.lt; omega)
  have HCU := Lib.hid hc2
  have HS3 := Lib.hid (HS0.out.below hc3)
  have HD3 := Lib.hid hc3
  clear hc1 hc2 hc3 HS0
  go_wp2_with fail
  refine Q.ev_keep HD3.out (Nat.le_refl _) ?_
  refine wpQuiet_nil ?_
  go_wp2_with fail
  refine (new_any key _ HK.out).mono ?_
  rintro e w4 ⟨d, rfl, hd1, hd2, hd3⟩
  have HD1 := Lib.hid (show c < d from by have := HCU.out.lt; omega)
  have HDU := Lib.hid hd2
  have HCU4 := Lib.hid (HCU.out.below hd3)
  have HS4 := Lib.hid (HS3.out.below hd3)
  have HD4 := Lib.hid hd3
  clear hd1 hd2 hd3
  go_wp2_with fail
  refine Q.ev_keep HD4.out (by have := HD3.out.size; exact this) ?_
  repeat (go_big_quiet_step (fail))
  refine wpQuiet_nil ?_
  refine NoPanic.normal ?_
  clear HS3 HCU HD3 HD4
  have HPi := Lib.hid (show (Try.prog.info? tB).map (·.size) = some P.length from by rw [HPl.out]; exact info_B)
  have HQi := Lib.hid (show (Try.prog.info? tB).map (·.size) = some R.length from by rw [HQl.out]; exact info_B)
  have HT1 := Lib.hid (HTa.out c w4 HCU4.out)
  clear HTa
  go_upto_region 3 with (first
    | (refine load_ab .u8 (n0 + 1) a rfl rfl rfl HS4.out.a Try.underlying26 (by rw [HAl.out]; exact info_B) ?_)
    | (go_at_call 17; refine HT1.out.mono ?_; rintro e w5 ⟨rfl, _, hg⟩; (have HS5 := Lib.hid (HS4.out.grown hg HC1.out)); (have HDU5 := Lib.hid (HDU.out.grown hg (by have := HD1.out; omega))); clear hg HT1)
    | (refine store_ab .u8 w5.heap.size z16 P rfl rfl rfl rfl rfl (AB.mk w5 .u8 _ z16) HPi.out (by rw [HPl.out]; rfl) ?_; intro w6 h6 hg6; (have HP6 := Lib.hid h6); (have HG6 := Lib.hid (below_new hg6)); clear h6 hg6))
  have HS6 := Lib.hid (HS5.out.below HG6.out.1)
  have HDU6 := Lib.hid (HDU5.out.below HG6.out.1)
  have HN6 := Lib.hid (show d < w5.heap.size from HDU5.out.lt)
  clear HS4 HS5 HDU HDU5 HG6 HCU4
  generalize w5.heap.size = n6 at *
  have HT2 := Lib.hid (HTb.out d w6 HDU6.out)
  clear HTb
  go_upto_region 4 with (first
    | (refine load_ab .u8 (n0 + 2) b rfl rfl rfl HS6.out.b Try.underlying26 (by rw [HBl.out]; exact info_B) ?_)
    | (go_at_call 17; refine HT2.out.mono ?_; rintro e w7 ⟨rfl, _, hg⟩; (have HS7 := Lib.hid (HS6.out.grown hg (by have := HC1.out; have := HD1.out; omega))); (have HP7 := Lib.hid (HP6.out.grown hg (fun e => by injection e with e; have := HN6.out; omega))); clear hg HT2)
    | (refine store_ab .u8 w7.heap.size z16 R rfl rfl rfl rfl rfl (AB.mk w7 .u8 _ z16) HQi.out (by rw [HQl.out]; rfl) ?_; intro w8 h8 hg8; (have HQ8 := Lib.hid h8); (have HG8 := Lib.hid (below_new hg8)); clear h8 hg8))
  have HS8 := Lib.hid (HS7.out.below HG8.out.1)
  have HP8 := Lib.hid (HP7.out.below HP7.out.lt HG8.out.1)
  clear HS6 HDU6 HS7 HP7 HP6 HG8 HC1 HD1
  generalize w7.heap.size = n8 at *
  refine Q.wp_region_segs none [([], some 0), ([1, 2, 3, 4, 5, 6, 7, 8, 9, 10, 11, 12, 13, 14, 15, 16, 17, 18, 19, 21, 24, 25, 26], some 20), ([], some 22), ([23, 27, 28, 29], none)] (by kernel_rfl) (by kernel_rfl) (by kernel_rfl) (by kernel_rfl) ?_
  dsimp only [Q.wpSegs, Q.picks, Q.pick]
  refine wpQuiet_nil ?_
  have HS9 := Lib.hid (HS8.out.below (Below.refl _ _).drew)
  have HP9 := Lib.hid HP8.out.drew
  have HQ9 := Lib.hid HQ8.out.drew
  clear HS8
  go_wp2_with fail
  refine (alive_any _).mono ?_
  rintro e w9 ⟨rfl, hb9⟩
  have HB9 := Lib.hid hb9
  have HS10 := Lib.hid (HS9.out.below hb9)
  have HP10 := Lib.hid (HP9.out.below HP9.out.lt hb9)
  have HQ10 := Lib.hid (HQ9.out.below HQ9.out.lt hb9)
  clear hb9
  go_wp2_with fail
  refine Q.ev_keep HB9.out (Nat.le_refl _) ?_
  repeat (go_big_quiet_step (fail))
  refine quiet_loadG tB (.tmp 13) (.pointer (some ⟨n6, 0, none⟩)) (.agg (arr .u8 P)) rfl rfl rfl (HP10.out.loadQR (B := w8.heap.size) HP9.out.lt (by simp) Try.underlying26 HPi.out) ?_
  go_simp
  refine quiet_loadG tB (.tmp 15) (.pointer (some ⟨n8, 0, none⟩)) (.agg (arr .u8 R)) rfl rfl rfl (HQ10.out.loadQR (B := w8.heap.size) HQ9.out.lt (by simp) Try.underlying26 HQi.out) ?_
  go_simp
  repeat (go_big_quiet_step (fail))
  refine quiet_loadG tB (.tmp 6) (.pointer (some ⟨n0 + 1, 0, none⟩)) (.agg (arr .u8 a)) rfl rfl rfl (HS10.out.a.loadQR (B := w8.heap.size) HS9.out.a.lt (by simp) Try.underlying26 (by rw [HAl.out]; exact info_B)) ?_
  go_simp
  refine quiet_loadG tB (.tmp 7) (.pointer (some ⟨n0 + 2, 0, none⟩)) (.agg (arr .u8 b)) rfl rfl rfl (HS10.out.b.loadQR (B := w8.heap.size) HS9.out.b.lt (by simp) Try.underlying26 (by rw [HBl.out]; exact info_B)) ?_
  go_simp
  repeat (go_big_quiet_step (fail))
  refine wpQuiet_nil ?_
  go_wp2_with fail
  refine (HXb.out _).mono ?_
  rintro e w11 ⟨rfl, hb11⟩
  have HB11 := Lib.hid hb11
  have HS11 := Lib.hid (HS10.out.below hb11)
  clear hb11
  go_wp2_with fail
  refine Q.ev_keep HB11.out HB9.out.size ?_
  refine wpQuiet_nil ?_
  go_wp2_with fail
  refine (HYb.out _).mono ?_
  rintro e w12 ⟨rfl, hb12⟩
  have HB12 := Lib.hid hb12
  have HS12 := Lib.hid (HS11.out.below hb12)
  clear hb12
  go_wp2_with fail
  refine Q.ev_keep HB12.out (Nat.le_trans HB9.out.size HB11.out.size) ?_
  repeat (go_big_quiet_step (fail))
  refine wpQuiet_nil ?_
  refine NoPanic.normal ?_
  go_wp2_with fail
  go_ret
  exact ⟨rfl, by rw [Hn.out]; exact HS12.out.g⟩
end Go.Proofs.Ytblnclooobggnaa.A
