/-
  style: the document's style in memory; Of, As, isColour, Right, place.
-/
import Derived.Test.YthgdbdhonhkkpaaTg
import Derived.Test.YthgdbdhonhkkpaaNo
namespace Go.Proofs.Ythgdbdhonhkkpaa.St
open Go.RowKit Go.Proofs.Ythgdbdhonhkkpaa.L Go.Proofs.Ythgdbdhonhkkpaa.V Go.Proofs.Ythgdbdhonhkkpaa.N Go.Proofs.YthgdbdhonhkkpaaW.PrintWords

abbrev tR : TypeId := 63
def btN (f i : Nat) : Bool := decide (f / 2 ^ i % 2 = 1)
def blN (f : Nat) : List Bool := (List.range 8).map (btN f)
theorem blN_len (f : Nat) : (blN f).length = 8 := by simp [blN]
theorem blN_get (f : Nat) {i : Nat} (h : i < 8) : (blN f).getD i false = btN f i := by
  unfold blN
  rw [List.getD_eq_getElem?_getD, List.getElem?_map, List.getElem?_range h]
  rfl
def rfA (l : List Bool) (a c : Nat) : Array Value := (l.map Value.bool ++ [Value.int .u32 (a : Int), Value.int .u32 (c : Int)]).toArray
def rsA (s : Sty) : Array Value := rfA (blN s.1) s.2.1 s.2.2
theorem rfA_size {l : List Bool} (h : l.length = 8) (a c : Nat) : (rfA l a c).size = 10 := by simp [rfA, h]
theorem rfA_one (l : List Bool) (a c : Nat) : (rfA l a c).all (·.oneCell') = true := by
  unfold rfA
  rw [List.all_toArray, List.all_append, List.all_map]
  simp only [Bool.and_eq_true]
  exact ⟨List.all_eq_true.2 (fun x _ => rfl), rfl⟩
def RO (b : Nat) (l : List Bool) (a c : Nat) (w : World) : Prop := w.heap[b]? = some (.cells (rfA l a c) tR (0, 0))
section
variable {b : Nat} {l : List Bool} {a c : Nat} {w : World}
theorem RO.cb (h : RO b l a c w) (hl : l.length = 8) {i : Nat} (hi : i < 8) : w.cell? ⟨b, i, none⟩ = some (.bool (l.getD i false)) := by
  rw [blk_cell h]
  unfold rfA
  rw [List.getElem?_toArray, List.getElem?_append_left (by rw [List.length_map]; omega), List.getElem?_map, List.getD_eq_getElem?_getD, List.getElem?_eq_getElem (by omega)]
  rfl
theorem RO.c8 (h : RO b l a c w) (hl : l.length = 8) : w.cell? ⟨b, 8, none⟩ = some (.int .u32 (a : Int)) := by
  rw [blk_cell h]
  unfold rfA
  rw [List.getElem?_toArray, List.getElem?_append_right (by rw [List.length_map]; omega), List.length_map, hl]
  rfl
theorem RO.c9 (h : RO b l a c w) (hl : l.length = 8) : w.cell? ⟨b, 9, none⟩ = some (.int .u32 (c : Int)) := by
  rw [blk_cell h]
  unfold rfA
  rw [List.getElem?_toArray, List.getElem?_append_right (by rw [List.length_map]; omega), List.length_map, hl]
  rfl
theorem RO.fz (h : RO b l a c w) (i : Nat) : w.frozen? ⟨b, i, none⟩ = false := blk_frozen h i
theorem RO.lt (h : RO b l a c w) : b < w.heap.size := blk_lt h
theorem RO.sb (h : RO b l a c w) (hl : l.length = 8) {i : Nat} (hi : i < 8) (x : Bool) : RO b (l.set i x) a c (w.setCell ⟨b, i, none⟩ (.bool x)) := by
  unfold RO
  rw [blk_set h i]
  unfold rfA
  rw [List.setIfInBounds_toArray, List.set_append_left _ _ (by rw [List.length_map]; omega), List.map_set]
theorem RO.s8 (h : RO b l a c w) (hl : l.length = 8) (x : Nat) : RO b l x c (w.setCell ⟨b, 8, none⟩ (.int .u32 (x : Int))) := by
  unfold RO
  rw [blk_set h 8]
  unfold rfA
  rw [List.setIfInBounds_toArray, List.set_append_right _ _ (by rw [List.length_map]; omega), List.length_map, hl]
  rfl
theorem RO.s9 (h : RO b l a c w) (hl : l.length = 8) (x : Nat) : RO b l a x (w.setCell ⟨b, 9, none⟩ (.int .u32 (x : Int))) := by
  unfold RO
  rw [blk_set h 9]
  unfold rfA
  rw [List.setIfInBounds_toArray, List.set_append_right _ _ (by rw [List.length_map]; omega), List.length_map, hl]
  rfl
theorem RO.below {w1 : World} (h : RO b l a c w) (hb : Below w.heap.size w w1) : RO b l a c w1 := blk_below h hb
theorem RO.grown {w1 : World} {g : Nat} (h : RO b l a c w) (hg : w.grownBy w1 (some g)) (hne : b ≠ g) : RO b l a c w1 := (hg.block b h.lt (fun e => hne (by injection e))).trans h
theorem RO.load (h : RO b l a c w) (hl : l.length = 8) : (loadVar tR ⟨b, 0, none⟩).run Try.prog w = .ok (.agg (rfA l a c)) w :=
  run_loadVar_row _ _ _ _ _ _ _ h Try.underlying63 rfl (by rw [rfA_size hl]; kernel_rfl)
end
theorem RO.mk (w : World) (l : List Bool) (a c : Nat) : RO w.heap.size l a c (w.alloc (.cells (rfA l a c) tR)) := heap_alloc_new w _
theorem info_R : (Try.prog.info? tR).map (·.size) = some 10 := by kernel_rfl
def f8 : List Bool := List.replicate 8 false
theorem zero_R : (#[.bool false, .bool false, .bool false, .bool false, .bool false, .bool false, .bool false, .bool false, .int .u32 0, .int .u32 0] : Array Value) = rfA f8 0 0 := rfl
theorem blN0 : blN 0 = f8 := by decide
/-! Of -/
def flB (f i : Nat) : List Bool := (blN f).take i ++ List.replicate (8 - i) false
theorem flB_len (f : Nat) {i : Nat} (h : i ≤ 8) : (flB f i).length = 8 := by
  unfold flB
  rw [List.length_append, List.length_take, blN_len, List.length_replicate]
  omega
theorem flB_step (f : Nat) {i : Nat} (h : i < 8) : (flB f i).set i (btN f i) = flB f (i + 1) := by
  unfold flB
  have h1 : ((blN f).take i).length = i := by rw [List.length_take, blN_len]; omega
  have hb : i < (blN f).length := by rw [blN_len]; exact h
  rw [List.set_append_right _ _ (by omega), h1, Nat.sub_self, show 8 - i = (8 - (i + 1)) + 1 from by omega, List.replicate_succ, List.set_cons_zero, List.take_succ_eq_append_getElem hb, List.append_assoc]
  have := blN_get f h
  rw [List.getD_eq_getElem?_getD, List.getElem?_eq_getElem hb] at this
  rw [Option.getD_some] at this
  rw [this]
  rfl
theorem flB_all (f : Nat) : flB f 8 = blN f := by
  unfold flB
  rw [List.take_of_length_le (by rw [blN_len]; omega), Nat.sub_self, List.replicate_zero, List.append_nil]
theorem two_RO {W w : World} (l m : List Bool) (a c d e : Nat) (h : W = (w.alloc (.cells (rfA l a c) tR)).alloc (.cells (rfA m d e) tR)) : RO w.heap.size l a c W ∧ RO (w.heap.size + 1) m d e W ∧ Below w.heap.size w W := by
  subst h
  have e1 := alloc_size w (.cells (rfA l a c) tR)
  refine ⟨blk_alloc (RO.mk w l a c) _, ?_, ((Below.refl _ _).alloc (Nat.le_refl _) _).alloc (by omega) _⟩
  have := RO.mk (w.alloc (.cells (rfA l a c) tR)) m d e
  rwa [e1] at this
set_option maxRecDepth 100000 in
set_option maxHeartbeats 1600000 in
theorem rof_any (f a c : Nat) (w : World) (hf : f < 256) : Calls Try.prog 63 #[.int .u8 (f : Int), .int .u32 (a : Int), .int .u32 (c : Int)] w fun e w' => e = .returned (.agg (rsA (f, a, c))) ∧ Below w.heap.size w w' := by
  go_enter Try.func63, Try.ntmps63
  go_upto_region 2 with (fail)
  refine wp_at fun W hW => ?_
  obtain ⟨x1, x2, x3⟩ := two_RO f8 f8 0 0 a c (hW.trans rfl)
  have M0 := Lib.hid x1
  have M1 := Lib.hid (show RO (w.heap.size + 1) (flB f 0) a c W from x2)
  have M2 := Lib.hid x3
  clear hW x1 x2 x3
  go_wp2_with fail
  go_loopg [0, 8] 10 (fun g v0 v8 w' => ∃ i q : Nat, v0 = .int .u8 (q : Int) ∧ v8 = .int .i64 (i : Int) ∧ Hid (q = f / 2 ^ i) ∧ Hid (i ≤ 8 ∧ 8 < g + i) ∧ Hid (RO w.heap.size f8 0 0 w') ∧ Hid (RO (w.heap.size + 1) (flB f i) a c w') ∧ Hid (Below w.heap.size w w'))
  case atStart => exact ⟨0, f, rfl, rfl, Lib.hid (by rw [Nat.pow_zero, Nat.div_one]), Lib.hid ⟨by omega, by omega⟩, M0, M1, M2⟩
  case round =>
    obtain ⟨i, q, rfl, rfl, HF, HJ, HX, HO, HB⟩ := hrel
    clear M0 M1 M2
    cases gk with
    | zero => have := HJ.out; omega
    | succ k =>
      by_cases hi : i < 8
      · have hl := flB_len f (show i ≤ 8 by omega)
        have c0 := HO.out.cb hl hi
        have g0 := HO.out.fz i
        have HJ' := Lib.hid (show i < 8 ∧ 8 < (k + 1) + i from ⟨hi, HJ.out.2⟩)
        have HBt := Lib.hid (show ((q : Int) % 2 == 1) = btN f i from by
          rw [HF.out]
          unfold btN
          show decide _ = _
          rw [decide_eq_decide]
          omega)
        have hbt := HBt.out
        have HF2 := Lib.hid (show q / 2 = f / 2 ^ (i + 1) from by rw [HF.out, Nat.div_div_eq_div_mul, Nat.pow_succ])
        have z0 : (i : Int) < 8 := by omega
        have z1 : (0 : Int) ≤ (i : Int) := by omega
        have z2 : (0 : Int) ≤ (q : Int) := by omega
        have z3 : (q : Int) < 256 := by have := HF.out; have := Nat.div_le_self f (2 ^ i); omega
        clear hl hi HJ
        go_wp2_with fail
        go_roundg k
        case measure => have := HJ'.out; omega
        case rel => exact ⟨i + 1, q / 2, by go_num, by go_num, HF2, Lib.hid (by have := HJ'.out; omega), Lib.hid (HX.out.grown (grown_set _ _ _ _) (by omega)), Lib.hid (by rw [← flB_step f HJ'.out.1]; exact HO.out.sb (flB_len f (Nat.le_of_lt HJ'.out.1)) HJ'.out.1 _), Lib.hid (HB.out.setCell (p := ⟨w.heap.size + 1, i, none⟩) (Nat.le_succ _) _)⟩
      · obtain rfl : i = 8 := by have := HJ.out; omega
        clear hi
        have h8 := HO.out
        rw [flB_all] at h8
        have H8 := Lib.hid h8
        clear h8 HO
        go_wp2_with (first
          | (refine load_obj (w.heap.size + 1) (rfA (blN f) a c) rfl rfl rfl (H8.out.load (blN_len f)) ?_)
          | (refine store_obj w.heap.size (rfA f8 0 0) (rfA (blN f) a c) rfl rfl rfl rfl rfl HX.out (by rw [rfA_size (blN_len f)]; exact info_R) (by rw [rfA_size (blN_len f)]; rfl) (rfA_one _ _ _) ?_; intro w9 h9 hg9; (have H9 := Lib.hid (show RO w.heap.size (blN f) a c w9 from h9)); (have HB9 := Lib.hid (below_grown HB.out HB.out.size hg9 (Nat.le_refl _))); clear h9 hg9))
        have hl := H9.out.load (blN_len f)
        exact bodyPost_ret (v := .agg (rsA (f, a, c))) (by simp [results, Try.results63, asAddr]; exact hl) rfl ⟨rfl, HB9.out⟩
set_option maxRecDepth 100000 in
set_option maxHeartbeats 800000 in
theorem ras_any (s : Sty) (w : World) (hs : s.1 < 256) : Calls Try.prog 34 #[.agg (stA s)] w fun e w' => e = .returned (.agg (rsA s)) ∧ Below w.heap.size w w' := by
  rw [show (Value.agg (stA s)) = .agg #[.int .u8 (s.1 : Int), .int .u32 (s.2.1 : Int), .int .u32 (s.2.2 : Int)] from rfl]
  go_enter Try.func34, Try.ntmps34
  go_upto_region 1 with (fail)
  refine wp_at fun W hW => ?_
  have h1 : OB w.heap.size s W ∧ RO (w.heap.size + 1) f8 0 0 W ∧ Below w.heap.size w W := by
    have hW : W = (w.alloc (.cells (stA s) tS)).alloc (.cells (rfA f8 0 0) tR) := hW.trans rfl
    subst hW
    have e1 := alloc_size w (.cells (stA s) tS)
    refine ⟨blk_alloc (OB.mk w s) _, ?_, ((Below.refl _ _).alloc (Nat.le_refl _) _).alloc (by omega) _⟩
    have := RO.mk (w.alloc (.cells (stA s) tS)) f8 0 0
    rwa [e1] at this
  obtain ⟨x1, x2, x3⟩ := h1
  have c0 := x1.c0
  have c1 := x1.c1
  have c2 := x1.c2
  have X2 := Lib.hid x2
  have X3 := Lib.hid x3
  clear hW x1 x2 x3
  go_wp2_with (first
    | (go_at_call 63; refine (rof_any s.1 s.2.1 s.2.2 _ hs).mono ?_; rintro e w1 ⟨rfl, hb1⟩; (have HX1 := Lib.hid (X2.out.below hb1)); (have HB1 := Lib.hid (X3.out.trans (hb1.mono X3.out.size))); clear hb1)
    | (refine store_obj (w.heap.size + 1) (rfA f8 0 0) (rsA s) rfl rfl rfl rfl rfl HX1.out (by rw [rsA, rfA_size (blN_len s.1)]; exact info_R) (by rw [rsA, rfA_size (blN_len s.1)]; rfl) (rfA_one _ _ _) ?_; intro w9 h9 hg9; (have H9 := Lib.hid (show RO (w.heap.size + 1) (blN s.1) s.2.1 s.2.2 w9 from h9)); (have HB9 := Lib.hid (below_grown HB1.out HB1.out.size hg9 (Nat.le_succ _))); clear h9 hg9))
  have hl := H9.out.load (blN_len s.1)
  exact bodyPost_ret (v := .agg (rsA s)) (by simp [results, Try.results34, asAddr]; exact hl) rfl ⟨rfl, HB9.out⟩
set_option maxRecDepth 100000 in
set_option maxHeartbeats 800000 in
theorem rcol_any (c : Nat) (w : World) (hc : c < 4294967296) : Calls Try.prog 64 #[.int .u32 (c : Int)] w fun e w' => e = .returned (.bool (colB c)) ∧ w' = w := by
  by_cases hg0 : c = 0
  · subst hg0
    go_enter Try.func64, Try.ntmps64
    go_wp2_with fail
    go_ret
    exact ⟨rfl, rfl⟩
  have g0 : ((c : Int) == 0) = false := by rw [beq_eq_false_iff_ne]; omega
  have g0n : (c == 0) = false := by rw [beq_eq_false_iff_ne]; omega
  obtain ⟨q, hq⟩ : ∃ q : Nat, (c : Int) / 16777216 = (q : Int) := ⟨c / 16777216, by omega⟩
  obtain ⟨r, hr⟩ : ∃ r : Nat, (c : Int) % 16777216 = (r : Int) := ⟨c % 16777216, by omega⟩
  have z0 : (0 : Int) ≤ (c : Int) := by omega
  have z5 : (q : Int) < 256 := by omega
  by_cases h1 : q = 1
  · have t1 : ((q : Int) == 1) = true := by rw [beq_iff_eq]; omega
    have t1n : (q == 1) = true := by rw [beq_iff_eq]; omega
    by_cases h2 : r < 256
    · have HE := Lib.hid (show colB c = true from decide_eq_true (by omega))
      have t2 : decide ((r : Int) < 256) = true := decide_eq_true (by omega)
      have t2n : decide (r < 256) = true := decide_eq_true h2
      clear h1 h2 hg0
      go_enter Try.func64, Try.ntmps64
      go_wp2_with fail
      go_ret
      exact ⟨by rw [HE.out]; rfl, rfl⟩
    · have HE := Lib.hid (show colB c = false from decide_eq_false (by omega))
      have t2 : decide ((r : Int) < 256) = false := decide_eq_false (by omega)
      have t2n : decide (r < 256) = false := decide_eq_false h2
      have t3 : ((q : Int) == 2) = false := by rw [beq_eq_false_iff_ne]; omega
      have t3n : (q == 2) = false := by rw [beq_eq_false_iff_ne]; omega
      clear h1 h2 hg0
      go_enter Try.func64, Try.ntmps64
      go_wp2_with fail
      go_ret
      exact ⟨by rw [HE.out]; rfl, rfl⟩
  · have t1 : ((q : Int) == 1) = false := by rw [beq_eq_false_iff_ne]; omega
    have t1n : (q == 1) = false := by rw [beq_eq_false_iff_ne]; omega
    by_cases h2 : q = 2
    · have HE := Lib.hid (show colB c = true from decide_eq_true (by omega))
      have t3 : ((q : Int) == 2) = true := by rw [beq_iff_eq]; omega
      have t3n : (q == 2) = true := by rw [beq_iff_eq]; omega
      clear h1 h2 hg0
      go_enter Try.func64, Try.ntmps64
      go_wp2_with fail
      go_ret
      exact ⟨by rw [HE.out]; rfl, rfl⟩
    · have HE := Lib.hid (show colB c = false from decide_eq_false (by omega))
      have t3 : ((q : Int) == 2) = false := by rw [beq_eq_false_iff_ne]; omega
      have t3n : (q == 2) = false := by rw [beq_eq_false_iff_ne]; omega
      clear h1 h2 hg0
      go_enter Try.func64, Try.ntmps64
      go_wp2_with fail
      go_ret
      exact ⟨by rw [HE.out]; rfl, rfl⟩
set_option maxRecDepth 100000 in
set_option maxHeartbeats 800000 in
theorem rright_any (s : Sty) (w : World) (hs : okS s) : Calls Try.prog 35 #[.agg (rsA s)] w fun e w' => e = .returned (.bool (rightB s)) ∧ Below w.heap.size w w' := by
  obtain ⟨f, a, b⟩ := s
  obtain ⟨_, ha, hb⟩ := hs
  dsimp only at ha hb
  have hx := RO.mk w (blN f) a b
  have k8 := hx.c8 (blN_len f)
  have k9 := hx.c9 (blN_len f)
  rw [show rsA (f, a, b) = rfA (blN f) a b from rfl]
  by_cases h : colB a = true
  · have He := Lib.hid (show rightB (f, a, b) = colB b from by simp [rightB, h])
    have HA := Lib.hid ha
    have HBB := Lib.hid hb
    clear hx ha hb
    go_enter Try.func35, Try.ntmps35
    go_wp2_with (go_at_call 64; refine (rcol_any _ _ (by first | exact HA.out | exact HBB.out)).mono ?_; rintro e w1 ⟨rfl, hw1⟩; (rw [hw1]); clear hw1 w1)
    go_ret
    exact ⟨by rw [He.out]; rfl, (Below.refl _ _).alloc (Nat.le_refl _) _⟩
  · have h := eq_false_of_ne_true h
    have He := Lib.hid (show rightB (f, a, b) = false from by simp [rightB, h])
    have HA := Lib.hid ha
    have HBB := Lib.hid hb
    clear hx ha hb
    go_enter Try.func35, Try.ntmps35
    go_wp2_with (go_at_call 64; refine (rcol_any _ _ (by first | exact HA.out | exact HBB.out)).mono ?_; rintro e w1 ⟨rfl, hw1⟩; (rw [hw1]); clear hw1 w1)
    go_ret
    exact ⟨by rw [He.out]; rfl, (Below.refl _ _).alloc (Nat.le_refl _) _⟩
def plN (n : Int) : Int := if 1 ≤ n ∧ n ≤ 5 then n - 1 else if 7 ≤ n ∧ n ≤ 9 then n - 2 else -1
set_option maxRecDepth 100000 in
set_option maxHeartbeats 800000 in
theorem place_any (n : Int) (w : World) : Calls Try.prog 70 #[.int .i64 n] w fun e w' => e = .returned (.int .i64 (plN n)) ∧ w' = w := by
  by_cases h1 : n < 1
  · have He := Lib.hid (show plN n = -1 from by unfold plN; rw [if_neg (by omega), if_neg (by omega)])
    have t1 : decide (1 ≤ n) = false := decide_eq_false (by omega)
    have t2 : decide (7 ≤ n) = false := decide_eq_false (by omega)
    clear h1
    go_enter Try.func70, Try.ntmps70
    go_wp2_with fail
    go_ret
    exact ⟨by rw [He.out]; rfl, rfl⟩
  have t1 : decide (1 ≤ n) = true := decide_eq_true (by omega)
  by_cases h2 : n ≤ 5
  · have He := Lib.hid (show plN n = n - 1 from by unfold plN; rw [if_pos (by omega)])
    have t2 : decide (n ≤ 5) = true := decide_eq_true (by omega)
    have z1 : 1 ≤ n := by omega
    clear h1
    go_enter Try.func70, Try.ntmps70
    go_wp2_with fail
    go_ret
    exact ⟨by rw [He.out]; rfl, rfl⟩
  have t2 : decide (n ≤ 5) = false := decide_eq_false (by omega)
  by_cases h3 : n < 7
  · have He := Lib.hid (show plN n = -1 from by unfold plN; rw [if_neg (by omega), if_neg (by omega)])
    have t3 : decide (7 ≤ n) = false := decide_eq_false (by omega)
    clear h1 h2 h3
    go_enter Try.func70, Try.ntmps70
    go_wp2_with fail
    go_ret
    exact ⟨by rw [He.out]; rfl, rfl⟩
  have t3 : decide (7 ≤ n) = true := decide_eq_true (by omega)
  by_cases h4 : n ≤ 9
  · have He := Lib.hid (show plN n = n - 2 from by unfold plN; rw [if_neg (by omega), if_pos (by omega)])
    have t4 : decide (n ≤ 9) = true := decide_eq_true (by omega)
    have z1 : 7 ≤ n := by omega
    clear h1 h2 h3
    go_enter Try.func70, Try.ntmps70
    go_wp2_with fail
    go_ret
    exact ⟨by rw [He.out]; rfl, rfl⟩
  · have He := Lib.hid (show plN n = -1 from by unfold plN; rw [if_neg (by omega), if_neg (by omega)])
    have t4 : decide (n ≤ 9) = false := decide_eq_false (by omega)
    clear h1 h2 h3 h4
    go_enter Try.func70, Try.ntmps70
    go_wp2_with fail
    go_ret
    exact ⟨by rw [He.out]; rfl, rfl⟩
set_option maxRecDepth 100000 in
theorem small_any (n : Int) (w : World) : Calls Try.prog 74 #[.int .i64 n] w fun e w' => e = .returned (.bool (smallB n)) ∧ w' = w := by
  by_cases h1 : 0 ≤ n
  · have He := Lib.hid (show smallB n = decide (n ≤ 255) from by unfold smallB; rw [decide_eq_decide]; omega)
    have t1 : decide (0 ≤ n) = true := decide_eq_true h1
    clear h1
    go_enter Try.func74, Try.ntmps74
    go_wp2_with fail
    go_ret
    exact ⟨by rw [He.out]; rfl, rfl⟩
  · have He := Lib.hid (show smallB n = false from decide_eq_false (by omega))
    have t1 : decide (0 ≤ n) = false := decide_eq_false h1
    clear h1
    go_enter Try.func74, Try.ntmps74
    go_wp2_with fail
    go_ret
    exact ⟨by rw [He.out]; rfl, rfl⟩
end Go.Proofs.Ythgdbdhonhkkpaa.St
