/-
  sha: a block goes into a state.
-/
import Derived.Test.YtagfplcafeblbaaHf
import Derived.Test.YtagfplcafeblbaaNq
import Derived.Test.YtagfplcafeblbaaNc
import Derived.Test.YtagfplcafeblbaaQf
namespace Go.Proofs.Ytagfplcafeblbaa.H
open Go.RowKit Go.Proofs.Ytagfplcafeblbaa.L Go.Proofs.Ytagfplcafeblbaa.N Go.Proofs.YtagfplcafeblbaaW.PrintWords

abbrev tA8 : TypeId := 34
abbrev tA16 : TypeId := 98
abbrev tA64 : TypeId := 96
structure MX (B b2 b4 b5 b6 b8 : Nat) (s buf v : List Nat) (w0 w : World) : Prop where
  h2 : AB .u32 tA8 b2 s w
  h4 : AB .u32 tA8 b4 (List.replicate 8 0) w
  h5 : AB .u32 tA64 b5 kN w
  h6 : AB .u32 tA16 b6 buf w
  h8 : AB .u32 tA8 b8 v w
  bel : Below B w0 w
theorem w16_at {bl : List Nat} {i : Nat} (h : i < 16) : wordN (bl.drop (4 * i)) 0 = (w16 bl).getD i 0 := by
  unfold w16 wordN
  rw [List.getD_eq_getElem?_getD (l := List.map _ _), List.getElem?_map, List.getElem?_range h]
  simp only [List.getD_eq_getElem?_getD, List.getElem?_drop, Option.map_some, Option.getD_some, Nat.zero_add, Nat.add_zero]
theorem wordN_lt {b : List Nat} (i : Nat) (h : ∀ x ∈ b, x < 256) : wordN b i < 4294967296 := by
  have h0 := getD_lt0 (m := 256) (by decide) i h
  have h1 := getD_lt0 (m := 256) (by decide) (i + 1) h
  have h2 := getD_lt0 (m := 256) (by decide) (i + 2) h
  have h3 := getD_lt0 (m := 256) (by decide) (i + 3) h
  unfold wordN
  omega
theorem w16_lt {b : List Nat} (h : ∀ x ∈ b, x < 256) : ∀ x ∈ w16 b, x < 4294967296 := by
  intro x hx
  unfold w16 at hx
  obtain ⟨i, _, rfl⟩ := List.mem_map.1 hx
  exact wordN_lt _ h
theorem bufS_lt {i : Nat} {u : List Nat} (h : ∀ x ∈ u, x < 4294967296) : ∀ x ∈ bufS i u, x < 4294967296 := by
  unfold bufS
  split
  · exact set_lt h (add32_lt _ _)
  · exact h
theorem rounds_buf_lt {p : List Nat × List Nat} (h : ∀ x ∈ p.1, x < 4294967296) : ∀ i, ∀ x ∈ (rounds i p).1, x < 4294967296 := by
  intro i
  induction i with
  | zero => rw [rounds]; exact h
  | succ i ih => rw [rounds_1]; exact bufS_lt ih
theorem rnd_length (v : List Nat) (k x : Nat) : (rnd v k x).length = 8 := rfl
theorem rounds_v_length {p : List Nat × List Nat} (h : p.2.length = 8) (i : Nat) : (rounds i p).2.length = 8 := by
  cases i with
  | zero => rw [rounds]; exact h
  | succ i => rw [rounds_2]; exact rnd_length _ _ _
theorem idx16 (i d : Nat) (D : Int) (hD : D = (d : Int)) (hi : i < 64) (hd : d ≤ 15) : ∃ m, (i + d) % 16 = m ∧ IntKind.i64.wrap ((i : Int) + D) = (i : Int) + D ∧ ((i : Int) + D).tmod 16 = (m : Int) ∧ ((i : Int) + D) % 16 = (m : Int) ∧ (m : Int) < 16 ∧ (0 : Int) ≤ (m : Int) ∧ m < 16 := by
  subst hD
  refine ⟨_, rfl, IntWalk.i64_in _ (by omega), ?_, ?_, ?_, ?_, ?_⟩
  · rw [Int.tmod_eq_emod_of_nonneg (by omega)]; omega
  all_goals omega
theorem add_rule (a b : Nat) : IntKind.u32.wrap ((a : Int) + (b : Int)) = ((add32 a b : Nat) : Int) := by
  rw [IntKind.wrap_u32]
  unfold add32
  omega
theorem xor_div {a x : Nat} (n : Nat) (N : Int) (hN : N = (n : Int)) (ha : a < 4294967296) (hx : x < 4294967296) : bits .xor .u32 (a : Int) ((x : Int) / N) = ((a ^^^ x / n : Nat) : Int) := by
  subst hN
  rw [← Int.natCast_ediv]
  exact xor_u32 _ _ ha (Nat.lt_of_le_of_lt (Nat.div_le_self _ _) hx)
theorem rules15 (x0 w9 far near : Nat) (hfar : far < 4294967296) (hnear : near < 4294967296) : ∃ a1 a2 a3 a4 a5 a6 a7 : Nat,
    bits .xor .u32 ((rot far 7 : Nat) : Int) ((rot far 18 : Nat) : Int) = (a1 : Int) ∧ bits .xor .u32 (a1 : Int) ((far : Int) / 8) = (a2 : Int) ∧ IntKind.u32.wrap ((w9 : Int) + (a2 : Int)) = (a3 : Int) ∧
    bits .xor .u32 ((rot near 17 : Nat) : Int) ((rot near 19 : Nat) : Int) = (a4 : Int) ∧ bits .xor .u32 (a4 : Int) ((near : Int) / 1024) = (a5 : Int) ∧ IntKind.u32.wrap ((a3 : Int) + (a5 : Int)) = (a6 : Int) ∧
    IntKind.u32.wrap ((x0 : Int) + (a6 : Int)) = (a7 : Int) ∧ a7 = add32 x0 (add32 (add32 w9 (sg0 far)) (sg1 near)) ∧ a7 < 4294967296 := by
  have f7 := rot_lt (n := 7) (by decide) hfar
  have f18 := rot_lt (n := 18) (by decide) hfar
  have g17 := rot_lt (n := 17) (by decide) hnear
  have g19 := rot_lt (n := 19) (by decide) hnear
  exact ⟨_, _, _, _, _, _, _, xor_u32 _ _ f7 f18, xor_div 8 8 rfl (xor_lt32 f7 f18) hfar, add_rule _ _, xor_u32 _ _ g17 g19, xor_div 1024 1024 rfl (xor_lt32 g17 g19) hnear, add_rule _ _, add_rule _ _, rfl, add32_lt _ _⟩
theorem MX.set6 {B b2 b4 b5 b6 b8 : Nat} {s buf v : List Nat} {w0 w : World} (h : MX B b2 b4 b5 b6 b8 s buf v w0 w) (m x n : Nat) (ho : B ≤ b2 ∧ b2 < b4 ∧ b4 < b5 ∧ b5 < b6 ∧ b6 < b8) : MX B b2 b4 b5 b6 b8 s (buf.set m x) v w0 ((w.drewN n).setCell ⟨b6, m, none⟩ (.int .u32 (x : Int))) := by
  have hl := h.h8.lt
  exact ⟨(h.h2.drewN n).other (by omega), (h.h4.drewN n).other (by omega), (h.h5.drewN n).other (by omega), (h.h6.drewN n).set m x, (h.h8.drewN n).other (by omega), below_grown (h.bel.trans (grown_below0 w n)) (show B ≤ w.heap.size by omega) (grown_set _ _ _ _) (by omega)⟩
theorem MX.drewN {B b2 b4 b5 b6 b8 : Nat} {s buf v : List Nat} {w0 w : World} (h : MX B b2 b4 b5 b6 b8 s buf v w0 w) (n : Nat) : MX B b2 b4 b5 b6 b8 s buf v w0 (w.drewN n) := ⟨h.h2.drewN n, h.h4.drewN n, h.h5.drewN n, h.h6.drewN n, h.h8.drewN n, h.bel.trans (grown_below0 _ _)⟩
theorem MX.copied {B b2 b4 b5 b6 b8 : Nat} {s buf v v' : List Nat} {w0 w w1 : World} (h : MX B b2 b4 b5 b6 b8 s buf v w0 w) (h8 : AB .u32 tA8 b8 v' w1) (hg : w.grownBy w1 (some b8)) (ho : B ≤ b2 ∧ b2 < b4 ∧ b4 < b5 ∧ b5 < b6 ∧ b6 < b8) : MX B b2 b4 b5 b6 b8 s buf v' w0 w1 :=
  ⟨h.h2.grown hg (by intro e; injection e with e; omega), h.h4.grown hg (by intro e; injection e with e; omega), h.h5.grown hg (by intro e; injection e with e; omega), h.h6.grown hg (by intro e; injection e with e; omega), h8, below_grown h.bel (by have := h.h8.lt; omega) hg (by omega)⟩
theorem MX.set8 {B b2 b4 b5 b6 b8 : Nat} {s buf v : List Nat} {w0 w : World} (h : MX B b2 b4 b5 b6 b8 s buf v w0 w) (m x : Nat) (ho : B ≤ b2 ∧ b2 < b4 ∧ b4 < b5 ∧ b5 < b6 ∧ b6 < b8) : MX B b2 b4 b5 b6 b8 s buf (v.set m x) w0 (w.setCell ⟨b8, m, none⟩ (.int .u32 (x : Int))) :=
  h.copied (h.h8.set m x) (grown_set _ _ _ _) ho
theorem rules18 (y4 y5 y6 y7 kc x : Nat) (h4 : y4 < 4294967296) (h5 : y5 < 4294967296) (h6 : y6 < 4294967296) : ∃ g1 g2 g3 g4 g5 g6 g7 g8 g9 : Nat,
    bits .xor .u32 ((rot y4 6 : Nat) : Int) ((rot y4 11 : Nat) : Int) = (g1 : Int) ∧ bits .xor .u32 (g1 : Int) ((rot y4 25 : Nat) : Int) = (g2 : Int) ∧ IntKind.u32.wrap ((y7 : Int) + (g2 : Int)) = (g3 : Int) ∧
    bits .xor .u32 (y5 : Int) (y6 : Int) = (g4 : Int) ∧ bits .and .u32 (y4 : Int) (g4 : Int) = (g5 : Int) ∧ bits .xor .u32 (y6 : Int) (g5 : Int) = (g6 : Int) ∧ IntKind.u32.wrap ((g3 : Int) + (g6 : Int)) = (g7 : Int) ∧
    IntKind.u32.wrap ((g7 : Int) + (kc : Int)) = (g8 : Int) ∧ IntKind.u32.wrap ((g8 : Int) + (x : Int)) = (g9 : Int) ∧ g9 = add32 (add32 (add32 (add32 y7 (bs1 y4)) (y6 ^^^ (y4 &&& (y5 ^^^ y6)))) kc) x := by
  have f1 := rot_lt (n := 6) (by decide) h4
  have f2 := rot_lt (n := 11) (by decide) h4
  have f3 := rot_lt (n := 25) (by decide) h4
  have f4 := xor_lt32 h5 h6
  exact ⟨_, _, _, _, _, _, _, _, _, xor_u32 _ _ f1 f2, xor_u32 _ _ (xor_lt32 f1 f2) f3, add_rule _ _, xor_u32 _ _ h5 h6, and_u32 _ _ h4 f4, xor_u32 _ _ h6 (and_lt32 f4), add_rule _ _, add_rule _ _, add_rule _ _, rfl⟩
theorem rules19 (y0 y1 y2 : Nat) (h0 : y0 < 4294967296) (h1 : y1 < 4294967296) (h2 : y2 < 4294967296) : ∃ f1 f2 f3 f4 f5 f6 f7 : Nat,
    bits .xor .u32 ((rot y0 2 : Nat) : Int) ((rot y0 13 : Nat) : Int) = (f1 : Int) ∧ bits .xor .u32 (f1 : Int) ((rot y0 22 : Nat) : Int) = (f2 : Int) ∧ bits .and .u32 (y0 : Int) (y1 : Int) = (f3 : Int) ∧
    bits .or .u32 (y0 : Int) (y1 : Int) = (f4 : Int) ∧ bits .and .u32 (y2 : Int) (f4 : Int) = (f5 : Int) ∧ bits .or .u32 (f3 : Int) (f5 : Int) = (f6 : Int) ∧ IntKind.u32.wrap ((f2 : Int) + (f6 : Int)) = (f7 : Int) ∧
    f7 = add32 (bs0 y0) ((y0 &&& y1) ||| (y2 &&& (y0 ||| y1))) := by
  have f1 := rot_lt (n := 2) (by decide) h0
  have f2 := rot_lt (n := 13) (by decide) h0
  have f3 := rot_lt (n := 22) (by decide) h0
  have f4 := or_lt32 h0 h1
  exact ⟨_, _, _, _, _, _, _, xor_u32 _ _ f1 f2, xor_u32 _ _ (xor_lt32 f1 f2) f3, and_u32 _ _ h0 h1, or_u32 _ _ h0 h1, and_u32 _ _ h2 f4, or_u32 _ _ (and_lt32 h1) (and_lt32 f4), add_rule _ _, rfl⟩
theorem rnd_sets {v : List Nat} (hv : v.length = 8) (t u : Nat) : ((splice v 1 (v.take 7)).set 4 (add32 (v.getD 3 0) t)).set 0 (add32 t u) = [add32 t u, v.getD 0 0, v.getD 1 0, v.getD 2 0, add32 (v.getD 3 0) t, v.getD 4 0, v.getD 5 0, v.getD 6 0] ∧ (splice v 1 (v.take 7)).getD 4 0 = v.getD 3 0 ∧ (splice v 1 (v.take 7)).length = 8 := by
  match v, hv with
  | [v0, v1, v2, v3, v4, v5, v6, v7], _ => simp [splice]
set_option maxRecDepth 100000 in
set_option maxHeartbeats 3200000 in
theorem mix_any (s bl : List Nat) (A : Option Addr) (c : Nat) (w : World) (hs : s.length = 8) (hsl : ∀ x ∈ s, x < 4294967296) (hb : bl.length = 64) (hbl : ∀ x ∈ bl, x < 256) (hC : (Kd.int .u8).C w A bl.length (nat bl)) (hc : bl.length ≤ c) :
    Calls Try.prog 41 #[.agg (arr .u32 s), .slice A bl.length c] w fun e w' => e = .returned (.agg (arr .u32 (mixN s bl))) ∧ Below w.heap.size w w' := by
  have HS := Lib.hid hs
  have HSL := Lib.hid hsl
  have HBL := Lib.hid hbl
  have HC := Lib.hid hC
  have HB := Lib.hid hb
  have HCc := Lib.hid hc
  have HM := Lib.hid (show (mixN s bl) = mixN s bl from rfl)
  clear hs hsl hbl hC hb hc
  go_enter Try.func41, Try.ntmps41
  go_wp2_with fail
  refine calls_at fun W hW => ?_
  have hl2 : W.heap.size = w.heap.size + 2 := by rw [hW]; simp
  have h2 : AB .u32 tA8 w.heap.size s W := hW ▸ (AB.mk w .u32 tA8 s).below (by simp) ((Below.refl _ _).alloc (Nat.le_refl _) _)
  have h4 : AB .u32 tA8 (w.heap.size + 1) (List.replicate 8 0) W := by
    rw [hW, show w.heap.size + 1 = (w.alloc (Obj.cells (arr .u32 s) tA8)).heap.size from by simp]
    exact AB.mk _ .u32 tA8 (List.replicate 8 0)
  have hbel : Below w.heap.size w W := hW ▸ ((Below.refl _ _).alloc (Nat.le_refl _) _).alloc (by simp) _
  clear hW
  refine (constants_any W).mono ?_
  rintro e W1 ⟨rfl, hb1⟩
  have h21 := h2.below (by omega) hb1
  have h41 := h4.below (by omega) hb1
  have hbel1 := hbel.trans (hb1.mono (by omega))
  have hs1 := hb1.size
  clear h2 h4 hbel hb1
  have HX := Lib.hid (show W1.heap.size ≥ w.heap.size + 2 from by omega)
  clear hs1 hl2
  have H21 := Lib.hid h21
  have H41 := Lib.hid h41
  have HBel1 := Lib.hid hbel1
  clear h21 h41 hbel1 W
  rw [show u32s kN = arr .u32 kN from rfl]
  go_wp2_with (refine store_ab .u32 W1.heap.size (List.replicate 64 0) kN rfl rfl rfl rfl rfl (AB.mk W1 .u32 tA64 (List.replicate 64 0)) (by kernel_rfl) rfl ?_; intro W2 h5 hg5; (have H5 := Lib.hid h5); (have HG5 := Lib.hid hg5); clear h5 hg5)
  refine wp_at fun W3 hW3 => ?_
  have hb12 := below_grown (n := W1.heap.size) (((Below.refl W1.heap.size W1)).alloc (Nat.le_refl _) _) (by simp) HG5.out (Nat.le_refl _)
  have hs12 : W1.heap.size + 1 ≤ W2.heap.size := by have := HG5.out.size; simpa using this
  have hb23 : Below W2.heap.size W2 W3 := hW3 ▸ (Below.refl _ _).alloc (Nat.le_refl _) _
  have hs23 : W2.heap.size + 1 = W3.heap.size := by rw [hW3]; simp
  have h6 : AB .u32 tA16 W2.heap.size (List.replicate 16 0) W3 := hW3 ▸ AB.mk W2 .u32 tA16 (List.replicate 16 0)
  have hX := HX.out
  have h2 := (H21.out.below (by omega) hb12).below (by omega) hb23
  have h4 := (H41.out.below (by omega) hb12).below (by omega) hb23
  have h5 := H5.out.below (by omega) hb23
  have hbel := (HBel1.out.trans (hb12.mono (by omega))).trans (hb23.mono (by omega))
  have HO := Lib.hid (show w.heap.size + 2 ≤ W1.heap.size ∧ W1.heap.size < W2.heap.size ∧ W2.heap.size < W3.heap.size from ⟨by omega, by omega, by omega⟩)
  clear hW3 hb12 hs12 hb23 hs23 hX HX H21 H41 H5 HG5 HBel1
  have H2 := Lib.hid h2
  have H4 := Lib.hid h4
  have H5 := Lib.hid h5
  have H6 := Lib.hid h6
  have HBel := Lib.hid hbel
  clear h2 h4 h5 h6 hbel
  generalize W1.heap.size = b5 at *
  generalize W2.heap.size = b6 at *
  clear W1 W2
  go_loopg [19] 17 (fun g v19 w' => ∃ i : Nat, v19 = .int .i64 i ∧ Hid (i ≤ 16 ∧ 16 < g + i) ∧ Hid (AB .u32 tA16 b6 (fl (w16 bl) i) w') ∧ Hid (W3.grownBy w' (some b6)))
  case atStart => exact ⟨0, rfl, Lib.hid ⟨by omega, by omega⟩, Lib.hid (by rw [fl_zero, w16_length]; exact H6.out), Lib.hid (World.grownBy.refl _ _)⟩
  case round =>
    obtain ⟨i, rfl, HJ, HA, HG⟩ := hrel
    cases gk with
    | zero => have := HJ.out; omega
    | succ k =>
      by_cases hlt : i < 16
      · have HJ' := Lib.hid (show i < 16 ∧ 16 < (k + 1) + i from ⟨hlt, HJ.out.2⟩)
        obtain ⟨A1, c1, hcut, hc1, hC1⟩ := cutF A bl.length c (4 * (i : Int)) (4 * i) (by omega) (by have := HB.out; omega) HCc.out
        have HC1 := Lib.hid (hC1 wr bl (Kd.C_below HC.out (below_grown HBel.out HBel.out.size HG.out (by have := HO.out; omega))))
        have hlen : (bl.drop (4 * i)).length = bl.length - 4 * i := by simp
        have h4 : 4 ≤ (bl.drop (4 * i)).length := by have := HB.out; omega
        have hq := word_any (bl.drop (4 * i)) A1 c1 wr (by rw [hlen]; exact HC1.out) h4 (drop_lt _ HBL.out)
        rw [hlen] at hq
        have HQ := Lib.hid hq
        have hcc := HA.out.cell (i := i) (by rw [fl_length _ (by rw [w16_length]; omega), w16_length]; exact hlt)
        have hfz := HA.out.fz i
        have z1 : (0 : Int) ≤ (i : Int) := by omega
        have z2 : (i : Int) < 16 := by omega
        clear hC1 hc1 hlen h4 hq HJ
        go_wp2_with fail
        refine HQ.out.mono ?_
        rintro e w1 ⟨rfl, n, rfl⟩
        go_wp2_with fail
        go_roundg k
        case measure => have := HJ'.out; omega
        case rel => exact ⟨i + 1, by go_num, Lib.hid (by have := HJ'.out; omega), Lib.hid (by
          have h := (HA.out.drewN n).set i (wordN (bl.drop (4 * i)) 0)
          rw [show (fl (w16 bl) i).set i (wordN (bl.drop (4 * i)) 0) = fl (w16 bl) (i + 1) from by rw [w16_at hlt]; exact fl_step (by rw [w16_length]; exact hlt)] at h
          exact h), Lib.hid ((HG.out.trans (grown_drewN wr n _)).trans (grown_set _ _ _ _))⟩
      · have hi : i = 16 := by have := HJ.out; omega
        subst hi
        have h6 := HA.out
        rw [show fl (w16 bl) 16 = w16 bl from by have := fl_all (w16 bl); rwa [w16_length] at this] at h6
        have hO := HO.out
        have h2 := H2.out.grown HG.out (by intro e; injection e with e; omega)
        have h4 := H4.out.grown HG.out (by intro e; injection e with e; omega)
        have h5 := H5.out.grown HG.out (by intro e; injection e with e; omega)
        have hbel := below_grown HBel.out HBel.out.size HG.out (by omega)
        have hsz := HG.out.size
        have HO2 := Lib.hid (show w.heap.size + 2 ≤ b5 ∧ b5 < b6 ∧ b6 < wr.heap.size from ⟨by omega, by omega, by omega⟩)
        clear HA HG H2 H4 H5 H6 HBel HO hO hsz HJ hlt
        have R2 := Lib.hid h2
        have R4 := Lib.hid h4
        have R5 := Lib.hid h5
        have R6 := Lib.hid h6
        have RBel := Lib.hid hbel
        clear h2 h4 h5 h6 hbel
        go_wp2_with (first
          | (refine load_ab .u32 w.heap.size s rfl rfl rfl R2.out Try.underlying34 (by rw [HS.out]; kernel_rfl) ?_)
          | (refine store_ab .u32 wr.heap.size (List.replicate 8 0) s rfl rfl rfl rfl rfl (AB.mk wr .u32 tA8 (List.replicate 8 0)) (by rw [HS.out]; kernel_rfl) (by rw [HS.out]; rfl) ?_; intro W2 h8 hg8; (have R8 := Lib.hid h8); (have RG8 := Lib.hid hg8); clear h8 hg8))
        have hb8 : Below wr.heap.size wr W2 := below_grown ((Below.refl _ _).alloc (Nat.le_refl _) _) (by simp) RG8.out (Nat.le_refl _)
        have hO := HO2.out
        have M0 := Lib.hid (show MX w.heap.size w.heap.size (w.heap.size + 1) b5 b6 wr.heap.size s (rounds 0 (w16 bl, s)).1 (rounds 0 (w16 bl, s)).2 w W2 from ⟨R2.out.below (by omega) hb8, R4.out.below (by omega) hb8, R5.out.below (by omega) hb8, R6.out.below (by omega) hb8, R8.out, RBel.out.trans (hb8.mono (by omega))⟩)
        clear hb8 hO R2 R4 R5 R6 RBel R8 RG8
        have HORD := Lib.hid (show w.heap.size ≤ w.heap.size ∧ w.heap.size < w.heap.size + 1 ∧ w.heap.size + 1 < b5 ∧ b5 < b6 ∧ b6 < wr.heap.size from ⟨Nat.le_refl _, Nat.lt_succ_self _, HO2.out.1, HO2.out.2⟩)
        generalize wr.heap.size = b8 at *
        go_loopg [31] 65 (fun g v31 w' => ∃ i : Nat, v31 = .int .i64 i ∧ Hid (i ≤ 64 ∧ 64 < g + i) ∧ Hid (MX w.heap.size w.heap.size (w.heap.size + 1) b5 b6 b8 s (rounds i (w16 bl, s)).1 (rounds i (w16 bl, s)).2 w w'))
        case atStart => exact ⟨0, rfl, Lib.hid ⟨by omega, by omega⟩, M0⟩
        case round =>
          obtain ⟨i, rfl, HJ, HMX⟩ := hrel
          cases gk with
          | zero => have := HJ.out; omega
          | succ k2 =>
            by_cases hi64 : i < 64
            · have HJ' := Lib.hid (show i < 64 ∧ 64 < (k2 + 1) + i from ⟨hi64, HJ.out.2⟩)
              have hM := HMX.out
              have hul : (rounds i (w16 bl, s)).1.length = 16 := (rounds_buf_length i _).trans (w16_length bl)
              have hult := rounds_buf_lt (p := (w16 bl, s)) (w16_lt HBL.out) i
              have hvl := rounds_v_length (p := (w16 bl, s)) HS.out i
              have hvlt := rounds_lt i (w16 bl, s) HSL.out
              have hn1 := rounds_1 i (w16 bl, s)
              have hn2 := rounds_2 i (w16 bl, s)
              rw [hn1] at hn2
              clear M0 HMX HJ
              generalize (rounds i (w16 bl, s)).1 = u at hM hul hult hn1 hn2
              generalize (rounds i (w16 bl, s)).2 = v at hM hvl hvlt hn2
              have HN1 := Lib.hid hn1
              have HN2 := Lib.hid hn2
              have HU := Lib.hid (show u.length = 16 ∧ (∀ x ∈ u, x < 4294967296) ∧ v.length = 8 ∧ ∀ x ∈ v, x < 4294967296 from ⟨hul, hult, hvl, hvlt⟩)
              have HM := Lib.hid hM
              obtain ⟨m, hm⟩ : ∃ m, i % 16 = m := ⟨_, rfl⟩
              have q1 : (i : Int) % 16 = (m : Int) := by omega
              have q2 : (0 : Int) ≤ (m : Int) := by omega
              have q3 : (m : Int) < 16 := by omega
              have q4 : (0 : Int) ≤ (i : Int) := by omega
              have q5 : (i : Int) < 64 := by omega
              have c0 := hM.h6.cell (i := m) (by omega)
              obtain ⟨x0, hx0⟩ : ∃ x, u.getD m 0 = x := ⟨_, rfl⟩
              rw [hx0] at c0
              have HX0 := Lib.hid (show u.getD m 0 = x0 ∧ i % 16 = m from ⟨hx0, hm⟩)
              clear hul hult hvl hvlt hn1 hn2 hM hx0 hi64 hm
              by_cases h16 : 16 ≤ i
              · have t1 : decide ((16 : Int) ≤ (i : Int)) = true := decide_eq_true (by omega)
                have t2 : (16 : Int) ≤ (i : Int) := by omega
                go_wp2_with fail
                have hU := HU.out
                have hi64 := HJ'.out.1
                obtain ⟨m1, hm1, p1, r1, s1, b1, n1, k1⟩ := idx16 i 1 1 rfl hi64 (by decide)
                obtain ⟨m9, hm9, p9, r9, s9, b9, n9, k9⟩ := idx16 i 9 9 rfl hi64 (by decide)
                obtain ⟨m14, hm14, p14, r14, s14, b14, n14, k14⟩ := idx16 i 14 14 rfl hi64 (by decide)
                have c1 := HM.out.h6.cell (i := m1) (hU.1.symm ▸ k1)
                have c9 := HM.out.h6.cell (i := m9) (hU.1.symm ▸ k9)
                have c14 := HM.out.h6.cell (i := m14) (hU.1.symm ▸ k14)
                have hfar := getD_lt (l := u) (j := m1) (hU.1.symm ▸ k1) hU.2.1
                have hnear := getD_lt (l := u) (j := m14) (hU.1.symm ▸ k14) hU.2.1
                have hw9 := getD_lt (l := u) (j := m9) (hU.1.symm ▸ k9) hU.2.1
                have HMM := Lib.hid (show (i + 1) % 16 = m1 ∧ (i + 9) % 16 = m9 ∧ (i + 14) % 16 = m14 from ⟨hm1, hm9, hm14⟩)
                clear hm1 hm9 hm14 hU hi64 k1 k9 k14
                generalize hgf : u.getD m1 0 = far at c1 hfar
                generalize hgn : u.getD m14 0 = near at c14 hnear
                generalize hg9 : u.getD m9 0 = w9 at c9 hw9
                have HG1 := Lib.hid (show u.getD m1 0 = far ∧ u.getD m14 0 = near ∧ u.getD m9 0 = w9 from ⟨hgf, hgn, hg9⟩)
                clear hgf hgn hg9
                go_wp2_with fail
                go_quiet (fail)
                go_wp2_with fail
                obtain ⟨a1, a2, a3, a4, a5, a6, a7, e1, e2, e3, e4, e5, e6, e7, ha7, la7⟩ := rules15 x0 w9 far near hfar hnear
                have HA7 := Lib.hid ha7
                clear ha7
                go_quiet ((go_at_call 55; (first | with_reducible exact quiet_add_same (turn7 _ _ hfar) | with_reducible exact quiet_add_same (turn18 _ _ hfar) | with_reducible exact quiet_add_same (turn17 _ _ hnear) | with_reducible exact quiet_add_same (turn19 _ _ hnear))))
                have fz := HM.out.h6.fz m
                go_wp2_with fail
                refine wp_at fun w5 hw5 => ?_
                have hord := HORD.out
                obtain ⟨n5, hn5⟩ : ∃ n, w5 = (wr.drewN n).setCell ⟨b6, m, none⟩ (.int .u32 (a7 : Int)) := ⟨_, hw5⟩
                have HM5 := Lib.hid (show MX w.heap.size w.heap.size (w.heap.size + 1) b5 b6 b8 s (bufS i u) v w w5 from by
                  have h := HM.out.set6 m a7 n5 hord
                  rw [hn5, show bufS i u = u.set m a7 from by
                    unfold bufS
                    rw [if_pos h16, HX0.out.2, HX0.out.1, HMM.out.1, HMM.out.2.1, HMM.out.2.2, HG1.out.1, HG1.out.2.1, HG1.out.2.2, HA7.out]]
                  exact h)
                have HX5 := Lib.hid (show (bufS i u).getD m 0 = a7 ∧ a7 < 4294967296 from ⟨by
                  unfold bufS
                  rw [if_pos h16, HX0.out.2, HX0.out.1, HMM.out.1, HMM.out.2.1, HMM.out.2.2, HG1.out.1, HG1.out.2.1, HG1.out.2.2, ← HA7.out, List.getD_eq_getElem?_getD, List.getElem?_set_self (by rw [HU.out.1]; have := q3; omega)]
                  rfl, la7⟩)
                clear hw5 hn5 hord p1 r1 s1 b1 n1 p9 r9 s9 b9 n9 p14 r14 s14 b14 n14 c1 c9 c14 hfar hnear hw9 e1 e2 e3 e4 e5 e6 e7 la7 fz t1 t2 h16 c0
                have hM := HM5.out
                have hU := HU.out
                have d0 := hM.h8.cell (i := 0) (by rw [hU.2.2.1]; decide)
                have d1 := hM.h8.cell (i := 1) (by rw [hU.2.2.1]; decide)
                have d2 := hM.h8.cell (i := 2) (by rw [hU.2.2.1]; decide)
                have d4 := hM.h8.cell (i := 4) (by rw [hU.2.2.1]; decide)
                have d5 := hM.h8.cell (i := 5) (by rw [hU.2.2.1]; decide)
                have d6 := hM.h8.cell (i := 6) (by rw [hU.2.2.1]; decide)
                have d7 := hM.h8.cell (i := 7) (by rw [hU.2.2.1]; decide)
                have dk := hM.h5.cell (i := i) (show i < 64 from HJ'.out.1)
                have l0 := getD_lt0 (l := v) (m := 4294967296) (by decide) 0 hU.2.2.2
                have l1 := getD_lt0 (l := v) (m := 4294967296) (by decide) 1 hU.2.2.2
                have l2 := getD_lt0 (l := v) (m := 4294967296) (by decide) 2 hU.2.2.2
                have l4 := getD_lt0 (l := v) (m := 4294967296) (by decide) 4 hU.2.2.2
                have l5 := getD_lt0 (l := v) (m := 4294967296) (by decide) 5 hU.2.2.2
                have l6 := getD_lt0 (l := v) (m := 4294967296) (by decide) 6 hU.2.2.2
                obtain ⟨y0, hy0⟩ : ∃ y, v.getD 0 0 = y := ⟨_, rfl⟩
                obtain ⟨y1, hy1⟩ : ∃ y, v.getD 1 0 = y := ⟨_, rfl⟩
                obtain ⟨y2, hy2⟩ : ∃ y, v.getD 2 0 = y := ⟨_, rfl⟩
                obtain ⟨y4, hy4⟩ : ∃ y, v.getD 4 0 = y := ⟨_, rfl⟩
                obtain ⟨y5, hy5⟩ : ∃ y, v.getD 5 0 = y := ⟨_, rfl⟩
                obtain ⟨y6, hy6⟩ : ∃ y, v.getD 6 0 = y := ⟨_, rfl⟩
                obtain ⟨y7, hy7⟩ : ∃ y, v.getD 7 0 = y := ⟨_, rfl⟩
                obtain ⟨kc, hkc⟩ : ∃ y, kN.getD i 0 = y := ⟨_, rfl⟩
                rw [hy0] at d0 l0
                rw [hy1] at d1 l1
                rw [hy2] at d2 l2
                rw [hy4] at d4 l4
                rw [hy5] at d5 l5
                rw [hy6] at d6 l6
                rw [hy7] at d7
                rw [hkc] at dk
                obtain ⟨g1, g2, g3, g4, g5, g6, g7, g8, g9, e1, e2, e3, e4, e5, e6, e7, e8, e9, hg9⟩ := rules18 y4 y5 y6 y7 kc a7 l4 l5 l6
                obtain ⟨f1, f2, f3, f4, f5, f6, f7, p1, p2, p3, p4, p5, p6, p7, hf7⟩ := rules19 y0 y1 y2 l0 l1 l2
                have HR := Lib.hid (show rnd v (kN.getD i 0) ((bufS i u).getD (i % 16) 0) = [add32 g9 f7, v.getD 0 0, v.getD 1 0, v.getD 2 0, add32 (v.getD 3 0) g9, v.getD 4 0, v.getD 5 0, v.getD 6 0] from by
                  unfold rnd
                  rw [HX0.out.2, HX5.out.1, hkc, hg9, hf7, hy0, hy1, hy2, hy4, hy5, hy6, hy7])
                clear hy0 hy1 hy2 hy4 hy5 hy6 hy7 hkc hg9 hf7 hM hU
                go_wp2_with fail
                go_quiet (fail)
                go_wp2_with fail
                go_quiet ((go_at_call 55; (first | with_reducible exact quiet_add_same (turn6 _ _ l4) | with_reducible exact quiet_add_same (turn11 _ _ l4) | with_reducible exact quiet_add_same (turn25 _ _ l4))))
                go_wp2_with fail
                go_quiet ((go_at_call 55; (first | with_reducible exact quiet_add_same (turn2 _ _ l0) | with_reducible exact quiet_add_same (turn13 _ _ l0) | with_reducible exact quiet_add_same (turn22 _ _ l0))))
                go_wp2_with fail
                clear e1 e2 e3 e4 e5 e6 e7 e8 e9 p1 p2 p3 p4 p5 p6 p7 d0 d1 d2 d4 d5 d6 d7 dk l0 l1 l2 l4 l5 l6
                refine wp_at fun w6 hw6 => ?_
                have HM6 := Lib.hid (show MX w.heap.size w.heap.size (w.heap.size + 1) b5 b6 b8 s (bufS i u) v w w6 from by
                  obtain ⟨n6, hn6⟩ : ∃ n, w6 = w5.drewN n := ⟨_, hw6.trans (by rw [World.drewN_drewN, World.drewN_drewN])⟩
                  rw [hn6]
                  exact HM5.out.drewN n6)
                clear hw6 HM5
                refine Q.wp_region_segsF none [] [0, 1] 2 (by kernel_rfl) (by kernel_rfl) (by kernel_rfl) (by kernel_rfl) ?_
                dsimp only [Q.wpSegsF, Q.picks, Q.pick]
                repeat (go_big_quiet_step (fail))
                refine wpQuiet_nil ?_
                refine copy_ab rfl (.tmp 132) (.tmp 133) 86 86 rfl 33 Try.underlying86 (by kernel_rfl) .u32 tA8 _ _ b8 1 _ _ _ _ rfl rfl v HM6.out.h8 (v.take 7) (by rw [List.length_take, HU.out.2.2.1]; rfl) (fun _ => ⟨rfl, _, rfl, fun j hj => ?_⟩) (by rw [List.length_take, HU.out.2.2.1]; decide) ?_
                · have hj7 : j < 7 := by rw [List.length_take, HU.out.2.2.1] at hj; omega
                  have h := HM6.out.h8.cell (i := j) (by rw [HU.out.2.2.1]; omega)
                  rw [show (v.take 7).getD j 0 = v.getD j 0 from by rw [List.getD_eq_getElem?_getD, List.getElem?_take_of_lt hj7, ← List.getD_eq_getElem?_getD], show (⟨b8, 0, none⟩ : Addr).add j = ⟨b8, j, none⟩ from by rw [add_at, Nat.zero_add]]
                  exact h
                intro w7 h87 hg7
                obtain ⟨hs1, hs2, hs3⟩ := rnd_sets HU.out.2.2.1 g9 f7
                have hord := HORD.out
                have hM7 := HM6.out.copied h87 ((grown_drew w6 _).trans hg7) hord
                have HM7 := Lib.hid hM7
                have HS1 := Lib.hid hs1
                have k4 := hM7.h8.cell (i := 4) (by rw [hs3]; decide)
                have k0 := hM7.h8.cell (i := 0) (by rw [hs3]; decide)
                rw [hs2] at k4
                generalize (splice v 1 (v.take 7)).getD 0 0 = y00 at k0
                obtain ⟨y3, hy3⟩ : ∃ y, v.getD 3 0 = y := ⟨_, rfl⟩
                rw [hy3] at k4
                have z4 := hM7.h8.fz 4
                have z0 := hM7.h8.fz 0
                have E1 := add_rule y3 g9
                have E2 := add_rule g9 f7
                have HY3 := Lib.hid hy3
                clear h87 hg7 hs1 hs2 hs3 hM7 hy3 HM6 hord
                refine NoPanic.normal ?_
                go_wp2_with fail
                go_roundg k2
                case measure => have := HJ'.out; omega
                case rel => exact ⟨i + 1, by go_num, Lib.hid (by have := HJ'.out; omega), Lib.hid (by
                  have h := (HM7.out.set8 4 (add32 y3 g9) HORD.out).set8 0 (add32 g9 f7) HORD.out
                  rw [show ((splice v 1 (v.take 7)).set 4 (add32 y3 g9)).set 0 (add32 g9 f7) = rnd v (kN.getD i 0) ((bufS i u).getD (i % 16) 0) from by rw [← HY3.out, HS1.out, HR.out]] at h
                  rw [HN1.out, HN2.out]
                  exact h)⟩
              · have t1 : decide ((16 : Int) ≤ (i : Int)) = false := decide_eq_false (by omega)
                have t2 : (i : Int) < 16 := by omega
                have hx0 := getD_lt0 (l := u) (m := 4294967296) (by decide) m HU.out.2.1
                rw [HX0.out.1] at hx0
                have HXL := Lib.hid hx0
                clear hx0
                go_wp2_with fail
                refine wp_at fun w5 hw5 => ?_
                have HM5 := Lib.hid (show MX w.heap.size w.heap.size (w.heap.size + 1) b5 b6 b8 s (bufS i u) v w w5 from by
                  rw [hw5, show bufS i u = u from by unfold bufS; rw [if_neg h16]]
                  exact HM.out)
                have HX5 := Lib.hid (show (bufS i u).getD m 0 = x0 ∧ x0 < 4294967296 from ⟨by
                  unfold bufS
                  rw [if_neg h16, HX0.out.1], HXL.out⟩)
                clear hw5 t1 t2 h16 c0
                have hM := HM5.out
                have hU := HU.out
                have d0 := hM.h8.cell (i := 0) (by rw [hU.2.2.1]; decide)
                have d1 := hM.h8.cell (i := 1) (by rw [hU.2.2.1]; decide)
                have d2 := hM.h8.cell (i := 2) (by rw [hU.2.2.1]; decide)
                have d4 := hM.h8.cell (i := 4) (by rw [hU.2.2.1]; decide)
                have d5 := hM.h8.cell (i := 5) (by rw [hU.2.2.1]; decide)
                have d6 := hM.h8.cell (i := 6) (by rw [hU.2.2.1]; decide)
                have d7 := hM.h8.cell (i := 7) (by rw [hU.2.2.1]; decide)
                have dk := hM.h5.cell (i := i) (show i < 64 from HJ'.out.1)
                have l0 := getD_lt0 (l := v) (m := 4294967296) (by decide) 0 hU.2.2.2
                have l1 := getD_lt0 (l := v) (m := 4294967296) (by decide) 1 hU.2.2.2
                have l2 := getD_lt0 (l := v) (m := 4294967296) (by decide) 2 hU.2.2.2
                have l4 := getD_lt0 (l := v) (m := 4294967296) (by decide) 4 hU.2.2.2
                have l5 := getD_lt0 (l := v) (m := 4294967296) (by decide) 5 hU.2.2.2
                have l6 := getD_lt0 (l := v) (m := 4294967296) (by decide) 6 hU.2.2.2
                obtain ⟨y0, hy0⟩ : ∃ y, v.getD 0 0 = y := ⟨_, rfl⟩
                obtain ⟨y1, hy1⟩ : ∃ y, v.getD 1 0 = y := ⟨_, rfl⟩
                obtain ⟨y2, hy2⟩ : ∃ y, v.getD 2 0 = y := ⟨_, rfl⟩
                obtain ⟨y4, hy4⟩ : ∃ y, v.getD 4 0 = y := ⟨_, rfl⟩
                obtain ⟨y5, hy5⟩ : ∃ y, v.getD 5 0 = y := ⟨_, rfl⟩
                obtain ⟨y6, hy6⟩ : ∃ y, v.getD 6 0 = y := ⟨_, rfl⟩
                obtain ⟨y7, hy7⟩ : ∃ y, v.getD 7 0 = y := ⟨_, rfl⟩
                obtain ⟨kc, hkc⟩ : ∃ y, kN.getD i 0 = y := ⟨_, rfl⟩
                rw [hy0] at d0 l0
                rw [hy1] at d1 l1
                rw [hy2] at d2 l2
                rw [hy4] at d4 l4
                rw [hy5] at d5 l5
                rw [hy6] at d6 l6
                rw [hy7] at d7
                rw [hkc] at dk
                obtain ⟨g1, g2, g3, g4, g5, g6, g7, g8, g9, e1, e2, e3, e4, e5, e6, e7, e8, e9, hg9⟩ := rules18 y4 y5 y6 y7 kc x0 l4 l5 l6
                obtain ⟨f1, f2, f3, f4, f5, f6, f7, p1, p2, p3, p4, p5, p6, p7, hf7⟩ := rules19 y0 y1 y2 l0 l1 l2
                have HR := Lib.hid (show rnd v (kN.getD i 0) ((bufS i u).getD (i % 16) 0) = [add32 g9 f7, v.getD 0 0, v.getD 1 0, v.getD 2 0, add32 (v.getD 3 0) g9, v.getD 4 0, v.getD 5 0, v.getD 6 0] from by
                  unfold rnd
                  rw [HX0.out.2, HX5.out.1, hkc, hg9, hf7, hy0, hy1, hy2, hy4, hy5, hy6, hy7])
                clear hy0 hy1 hy2 hy4 hy5 hy6 hy7 hkc hg9 hf7 hM hU
                go_wp2_with fail
                go_quiet (fail)
                go_wp2_with fail
                go_quiet ((go_at_call 55; (first | with_reducible exact quiet_add_same (turn6 _ _ l4) | with_reducible exact quiet_add_same (turn11 _ _ l4) | with_reducible exact quiet_add_same (turn25 _ _ l4))))
                go_wp2_with fail
                go_quiet ((go_at_call 55; (first | with_reducible exact quiet_add_same (turn2 _ _ l0) | with_reducible exact quiet_add_same (turn13 _ _ l0) | with_reducible exact quiet_add_same (turn22 _ _ l0))))
                go_wp2_with fail
                clear e1 e2 e3 e4 e5 e6 e7 e8 e9 p1 p2 p3 p4 p5 p6 p7 d0 d1 d2 d4 d5 d6 d7 dk l0 l1 l2 l4 l5 l6
                refine wp_at fun w6 hw6 => ?_
                have HM6 := Lib.hid (show MX w.heap.size w.heap.size (w.heap.size + 1) b5 b6 b8 s (bufS i u) v w w6 from by
                  obtain ⟨n6, hn6⟩ : ∃ n, w6 = w5.drewN n := ⟨_, hw6.trans (by rw [World.drewN_drewN, World.drewN_drewN])⟩
                  rw [hn6]
                  exact HM5.out.drewN n6)
                clear hw6 HM5
                refine Q.wp_region_segsF none [] [0, 1] 2 (by kernel_rfl) (by kernel_rfl) (by kernel_rfl) (by kernel_rfl) ?_
                dsimp only [Q.wpSegsF, Q.picks, Q.pick]
                repeat (go_big_quiet_step (fail))
                refine wpQuiet_nil ?_
                refine copy_ab rfl (.tmp 132) (.tmp 133) 86 86 rfl 33 Try.underlying86 (by kernel_rfl) .u32 tA8 _ _ b8 1 _ _ _ _ rfl rfl v HM6.out.h8 (v.take 7) (by rw [List.length_take, HU.out.2.2.1]; rfl) (fun _ => ⟨rfl, _, rfl, fun j hj => ?_⟩) (by rw [List.length_take, HU.out.2.2.1]; decide) ?_
                · have hj7 : j < 7 := by rw [List.length_take, HU.out.2.2.1] at hj; omega
                  have h := HM6.out.h8.cell (i := j) (by rw [HU.out.2.2.1]; omega)
                  rw [show (v.take 7).getD j 0 = v.getD j 0 from by rw [List.getD_eq_getElem?_getD, List.getElem?_take_of_lt hj7, ← List.getD_eq_getElem?_getD], show (⟨b8, 0, none⟩ : Addr).add j = ⟨b8, j, none⟩ from by rw [add_at, Nat.zero_add]]
                  exact h
                intro w7 h87 hg7
                obtain ⟨hs1, hs2, hs3⟩ := rnd_sets HU.out.2.2.1 g9 f7
                have hord := HORD.out
                have hM7 := HM6.out.copied h87 ((grown_drew w6 _).trans hg7) hord
                have HM7 := Lib.hid hM7
                have HS1 := Lib.hid hs1
                have k4 := hM7.h8.cell (i := 4) (by rw [hs3]; decide)
                have k0 := hM7.h8.cell (i := 0) (by rw [hs3]; decide)
                rw [hs2] at k4
                generalize (splice v 1 (v.take 7)).getD 0 0 = y00 at k0
                obtain ⟨y3, hy3⟩ : ∃ y, v.getD 3 0 = y := ⟨_, rfl⟩
                rw [hy3] at k4
                have z4 := hM7.h8.fz 4
                have z0 := hM7.h8.fz 0
                have E1 := add_rule y3 g9
                have E2 := add_rule g9 f7
                have HY3 := Lib.hid hy3
                clear h87 hg7 hs1 hs2 hs3 hM7 hy3 HM6 hord
                refine NoPanic.normal ?_
                go_wp2_with fail
                go_roundg k2
                case measure => have := HJ'.out; omega
                case rel => exact ⟨i + 1, by go_num, Lib.hid (by have := HJ'.out; omega), Lib.hid (by
                  have h := (HM7.out.set8 4 (add32 y3 g9) HORD.out).set8 0 (add32 g9 f7) HORD.out
                  rw [show ((splice v 1 (v.take 7)).set 4 (add32 y3 g9)).set 0 (add32 g9 f7) = rnd v (kN.getD i 0) ((bufS i u).getD (i % 16) 0) from by rw [← HY3.out, HS1.out, HR.out]] at h
                  rw [HN1.out, HN2.out]
                  exact h)⟩
            · have hi : i = 64 := by have := HJ.out; omega
              subst hi
              clear HJ M0 hi64
              have hvl := rounds_v_length (p := (w16 bl, s)) HS.out 64
              have HV := Lib.hid (show mixN s bl = List.zipWith add32 (rounds 64 (w16 bl, s)).2 s from by unfold mixN w16; exact rfl)
              have hM := HMX.out
              clear HMX
              generalize (rounds 64 (w16 bl, s)).2 = V at hM hvl HV
              generalize (rounds 64 (w16 bl, s)).1 = U at hM
              have HM := Lib.hid hM
              have HVl := Lib.hid hvl
              have hzl : (List.zipWith add32 V s).length = 8 := by rw [List.length_zipWith, hvl, HS.out]; rfl
              have HZl := Lib.hid hzl
              clear hM hvl hzl
              go_wp2_with fail
              go_loopg [145] 9 (fun g v145 w' => ∃ i : Nat, v145 = .int .i64 i ∧ Hid (i ≤ 8 ∧ 8 < g + i) ∧ Hid (MX w.heap.size w.heap.size (w.heap.size + 1) b5 b6 b8 s U (fld (List.zipWith add32 V s) V i) w w'))
              case atStart => exact ⟨0, rfl, Lib.hid ⟨by omega, by omega⟩, by rw [fld_zero]; exact HM⟩
              case round =>
                obtain ⟨i, rfl, HJ, HMX⟩ := hrel
                cases gk with
                | zero => have := HJ.out; omega
                | succ k3 =>
                  clear HM
                  by_cases hi8 : i < 8
                  · have HJ' := Lib.hid (show i < 8 ∧ 8 < (k3 + 1) + i from ⟨hi8, HJ.out.2⟩)
                    have hord := HORD.out
                    have hl8 := HMX.out.h8.lt
                    have c8 := gw hl8 (HMX.out.h8.cell (i := i) (by rw [fld_length (by rw [HZl.out, HVl.out]) (by rw [HZl.out]; omega), HVl.out]; exact hi8))
                    rw [fld_get (by rw [HZl.out, HVl.out]) (by rw [HZl.out]; exact hi8)] at c8
                    have c2 := gw HMX.out.h2.lt (HMX.out.h2.cell (i := i) (by rw [HS.out]; exact hi8))
                    have hz : (List.zipWith add32 V s).getD i 0 = add32 (V.getD i 0) (s.getD i 0) := by
                      rw [List.getD_eq_getElem?_getD, List.getElem?_zipWith, List.getElem?_eq_getElem (by rw [HVl.out]; exact hi8), List.getElem?_eq_getElem (by rw [HS.out]; exact hi8)]
                      simp [List.getD_eq_getElem?_getD, List.getElem?_eq_getElem (show i < V.length by rw [HVl.out]; exact hi8), List.getElem?_eq_getElem (show i < s.length by rw [HS.out]; exact hi8)]
                    have hst := fld_step (new := List.zipWith add32 V s) (old := V) (by rw [HZl.out, HVl.out]) (i := i) (by rw [HZl.out]; exact hi8)
                    rw [hz] at hst
                    obtain ⟨va, hva⟩ : ∃ a, V.getD i 0 = a := ⟨_, rfl⟩
                    obtain ⟨sa, hsa⟩ : ∃ a, s.getD i 0 = a := ⟨_, rfl⟩
                    rw [hva, hsa] at hst
                    rw [hva] at c8
                    rw [hsa] at c2
                    have HST := Lib.hid hst
                    have k8 := HMX.out.h8.cell (i := i) (by rw [fld_length (by rw [HZl.out, HVl.out]) (by rw [HZl.out]; omega), HVl.out]; exact hi8)
                    have fz := HMX.out.h8.fz i
                    have E := add_rule va sa
                    have z1 : (0 : Int) ≤ (i : Int) := by omega
                    have z2 : (i : Int) < 8 := by omega
                    clear hst hz hord hl8 HJ hi8 hva hsa
                    generalize (fld (List.zipWith add32 V s) V i).getD i 0 = y at k8
                    go_wp2_with fail
                    refine Q.wp_region_segsF none [] [0, 1, 2, 3, 4, 5, 6, 7] 8 (by kernel_rfl) (by kernel_rfl) (by kernel_rfl) (by kernel_rfl) ?_
                    dsimp only [Q.wpSegsF, Q.picks, Q.pick]
                    repeat (go_big_quiet_step (fail))
                    refine wpQuiet_nil ?_
                    clear c8 c2
                    go_wp2_with fail
                    refine NoPanic.normal ?_
                    go_wp2_with fail
                    go_roundg k3
                    case measure => have := HJ'.out; omega
                    case rel => exact ⟨i + 1, by go_num, Lib.hid (by have := HJ'.out; omega), Lib.hid (by
                      have h := HMX.out.set8 i (add32 va sa) HORD.out
                      rw [HST.out] at h
                      exact h.drewN 1)⟩
                  · have hi : i = 8 := by have := HJ.out; omega
                    subst hi
                    have h := HMX.out
                    rw [show fld (List.zipWith add32 V s) V 8 = mixN s bl from by
                      have := fld_all (new := List.zipWith add32 V s) (old := V) (by rw [HZl.out, HVl.out])
                      rw [HZl.out] at this
                      rw [this, HV.out]] at h
                    have hEl : (mixN s bl).length = 8 := HV.out ▸ HZl.out
                    obtain ⟨R, hR⟩ : ∃ R, mixN s bl = R := ⟨_, rfl⟩
                    rw [hR] at h hEl
                    have HE := Lib.hid h
                    have HEl := Lib.hid hEl
                    have HRR := Lib.hid hR
                    clear h HMX HJ hi8 hEl hR
                    go_wp2_with (first
                      | (refine load_ab .u32 b8 R rfl rfl rfl HE.out.h8 Try.underlying34 (by rw [HEl.out]; kernel_rfl) ?_)
                      | (refine store_ab .u32 (w.heap.size + 1) (List.replicate 8 0) R rfl rfl rfl rfl rfl HE.out.h4 (by rw [HEl.out]; kernel_rfl) (by rw [HEl.out]; rfl) ?_; intro W5 h45 hg5; (have R45 := Lib.hid h45); (have RG5 := Lib.hid hg5); clear h45 hg5))
                    have hl := R45.out.load (P := Try.prog) Try.underlying34 (by rw [HEl.out]; kernel_rfl)
                    have hb5 := below_grown HE.out.bel (by have := HE.out.h8.lt; have := HORD.out; omega) RG5.out (by omega)
                    exact bodyPost_ret (v := .agg (arr .u32 R)) (by simp [results, Try.results41, hl, Act.put, asAddr]) rfl ⟨by rw [HRR.out], hb5⟩
end Go.Proofs.Ytagfplcafeblbaa.H
