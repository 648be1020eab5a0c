/-
  style: the document's number that stands alone.
-/
import Derived.Test.YthgdbdhonhkkpaaTh
namespace Go.Proofs.Ythgdbdhonhkkpaa.St
open Go.RowKit Go.Proofs.Ythgdbdhonhkkpaa.L Go.Proofs.Ythgdbdhonhkkpaa.V Go.Proofs.Ythgdbdhonhkkpaa.N Go.Proofs.YthgdbdhonhkkpaaW.PrintWords

theorem bl_or : ∀ f, f < 256 → ∀ p, p < 8 → blN (f ||| 2 ^ p) = (blN f).set p true := by decide +kernel
theorem bl_and : ∀ f, f < 256 → ∀ p, p < 8 → blN (f &&& (255 - 2 ^ p)) = (blN f).set p false := by decide +kernel
theorem bl_22 : ∀ f, f < 256 → blN (f &&& 252) = ((blN f).set 0 false).set 1 false := by decide +kernel
theorem plN_yes {n : Int} (h : (1 ≤ n ∧ n ≤ 5) ∨ (7 ≤ n ∧ n ≤ 9)) : ∃ p : Nat, plN n = (p : Int) ∧ p < 8 ∧ flagN n = 2 ^ p := by
  rcases (show n = 1 ∨ n = 2 ∨ n = 3 ∨ n = 4 ∨ n = 5 ∨ n = 7 ∨ n = 8 ∨ n = 9 from by omega) with h | h | h | h | h | h | h | h <;> subst h
  · exact ⟨0, rfl, by decide, rfl⟩
  · exact ⟨1, rfl, by decide, rfl⟩
  · exact ⟨2, rfl, by decide, rfl⟩
  · exact ⟨3, rfl, by decide, rfl⟩
  · exact ⟨4, rfl, by decide, rfl⟩
  · exact ⟨5, rfl, by decide, rfl⟩
  · exact ⟨6, rfl, by decide, rfl⟩
  · exact ⟨7, rfl, by decide, rfl⟩
theorem plN_no {n : Int} (h : ¬ ((1 ≤ n ∧ n ≤ 5) ∨ (7 ≤ n ∧ n ≤ 9))) : plN n = -1 := by
  unfold plN
  rw [if_neg (by omega), if_neg (by omega)]
/-- the colours after so many rounds -/
def fgA (n : Int) (a i : Nat) : Nat := if 30 ≤ n ∧ n < 30 + (i : Int) then (16777216 + (n - 30)).toNat else if 90 ≤ n ∧ n < 90 + (i : Int) then (16777216 + (n - 82)).toNat else a
def bgA (n : Int) (c i : Nat) : Nat := if 40 ≤ n ∧ n < 40 + (i : Int) then (16777216 + (n - 40)).toNat else if 100 ≤ n ∧ n < 100 + (i : Int) then (16777216 + (n - 92)).toNat else c
theorem fgA0 (n : Int) (a : Nat) : fgA n a 0 = a := by unfold fgA; rw [if_neg (by omega), if_neg (by omega)]
theorem bgA0 (n : Int) (a : Nat) : bgA n a 0 = a := by unfold bgA; rw [if_neg (by omega), if_neg (by omega)]
theorem fgA_same {n : Int} (a i : Nat) (h1 : n ≠ 30 + (i : Int)) (h2 : n ≠ 90 + (i : Int)) : fgA n a (i + 1) = fgA n a i := by
  unfold fgA
  (repeat' split) <;> omega
theorem bgA_same {n : Int} (a i : Nat) (h1 : n ≠ 40 + (i : Int)) (h2 : n ≠ 100 + (i : Int)) : bgA n a (i + 1) = bgA n a i := by
  unfold bgA
  (repeat' split) <;> omega
/-- the flags ahead of the rounds -/
def preF (f : Nat) (n : Int) : Nat := if (1 ≤ n ∧ n ≤ 5) ∨ (7 ≤ n ∧ n ≤ 9) then f ||| flagN n else if n = 22 then f &&& 252 else if (23 ≤ n ∧ n ≤ 25) ∨ (27 ≤ n ∧ n ≤ 29) then f &&& (255 - flagN (n - 20)) else f
theorem plain_pre (s : Sty) {n : Int} (h0 : n ≠ 0) (hf : s.1 < 256) : plainS s n = (preF s.1 n, if n = 39 then 0 else fgA n s.2.1 8, if n = 49 then 0 else bgA n s.2.2 8) := by
  obtain ⟨f, a, c⟩ := s
  have h255 : f &&& 255 = f := by
    have := Nat.and_two_pow_sub_one_eq_mod f 8
    rw [show 2 ^ 8 - 1 = 255 from rfl] at this
    rw [this]
    dsimp only at hf
    omega
  unfold plainS
  rw [if_neg h0]
  by_cases h1 : (1 ≤ n ∧ n ≤ 5) ∨ (7 ≤ n ∧ n ≤ 9)
  · have hfl : flagN n ≠ 0 := flag_yes (by omega) (by omega) (by omega)
    rw [if_pos hfl]
    unfold preF fgA bgA
    rw [if_pos h1, if_neg (by omega), if_neg (by omega), if_neg (by omega), if_neg (by omega), if_neg (by omega), if_neg (by omega)]
  · have hfl : flagN n = 0 := flag_no (by omega)
    rw [if_neg (by rw [hfl]; decide)]
    unfold preF
    rw [if_neg h1]
    by_cases h2 : n = 22
    · rw [if_pos h2, if_pos h2]
      unfold fgA bgA
      rw [if_neg (by omega), if_neg (by omega), if_neg (by omega), if_neg (by omega), if_neg (by omega), if_neg (by omega)]
    rw [if_neg h2, if_neg h2]
    by_cases h3 : 22 < n ∧ n < 30
    · rw [if_pos h3]
      have e : f &&& (255 - flagN (n - 20)) = (if (23 ≤ n ∧ n ≤ 25) ∨ (27 ≤ n ∧ n ≤ 29) then f &&& (255 - flagN (n - 20)) else f) := by
        by_cases h4 : (23 ≤ n ∧ n ≤ 25) ∨ (27 ≤ n ∧ n ≤ 29)
        · rw [if_pos h4]
        · rw [if_neg h4, flag_no (n := n - 20) (by omega), Nat.sub_zero, h255]
      dsimp only
      rw [← e]
      unfold fgA bgA
      rw [if_neg (by omega), if_neg (by omega), if_neg (by omega), if_neg (by omega), if_neg (by omega), if_neg (by omega)]
    rw [if_neg h3, if_neg (show ¬ ((23 ≤ n ∧ n ≤ 25) ∨ (27 ≤ n ∧ n ≤ 29)) by omega)]
    unfold fgA bgA
    by_cases c39 : n = 39
    · rw [if_pos c39, if_pos c39, if_neg (by omega), if_neg (by omega), if_neg (by omega)]
    rw [if_neg c39, if_neg c39]
    by_cases c49 : n = 49
    · rw [if_pos c49, if_pos c49, if_neg (by omega), if_neg (by omega)]
    rw [if_neg c49, if_neg c49]
    by_cases c30 : 30 ≤ n ∧ n ≤ 37
    · rw [if_pos c30, if_pos (by omega), if_neg (by omega), if_neg (by omega)]
    rw [if_neg c30, if_neg (show ¬ (30 ≤ n ∧ n < 30 + ((8 : Nat) : Int)) by omega)]
    by_cases c40 : 40 ≤ n ∧ n ≤ 47
    · rw [if_pos c40, if_neg (by omega), if_pos (by omega)]
    rw [if_neg c40, if_neg (show ¬ (40 ≤ n ∧ n < 40 + ((8 : Nat) : Int)) by omega)]
    by_cases c90 : 90 ≤ n ∧ n ≤ 97
    · rw [if_pos c90, if_pos (by omega), if_neg (by omega)]
    rw [if_neg c90, if_neg (show ¬ (90 ≤ n ∧ n < 90 + ((8 : Nat) : Int)) by omega)]
    by_cases c100 : 100 ≤ n ∧ n ≤ 107
    · rw [if_pos c100, if_pos (by omega)]
    rw [if_neg c100, if_neg (by omega)]
set_option maxRecDepth 100000 in
set_option maxHeartbeats 6400000 in
theorem one_any (s : Sty) (n : Int) (w : World) (hs : okS s) : Calls Try.prog 73 #[.agg (rsA s), .int .i64 n] w fun e w' => e = .returned (.agg (rsA (plainS s n))) ∧ Below w.heap.size w w' := by
  have h2 := two_RO (blN s.1) f8 s.2.1 s.2.2 0 0 (W := (w.alloc (.cells (rfA (blN s.1) s.2.1 s.2.2) tR)).alloc (.cells (rfA f8 0 0) tR)) rfl
  by_cases h0 : n = 0
  · subst h0
    have HX := Lib.hid h2.2.1
    have HB := Lib.hid h2.2.2
    clear h2 hs
    go_enter Try.func73, Try.ntmps73
    go_upto_region 1 with (fail)
    refine wp_at fun W hW => ?_
    have hW2 : W = (w.alloc (.cells (rfA (blN s.1) s.2.1 s.2.2) tR)).alloc (.cells (rfA f8 0 0) tR) := hW.trans rfl
    rw [← hW2] at HX HB
    clear hW hW2
    go_wp2_with (refine store_obj (w.heap.size + 1) (rfA f8 0 0) (rfA f8 0 0) rfl rfl rfl rfl rfl HX.out (by rw [rfA_size rfl]; exact info_R) rfl (rfA_one _ _ _) ?_; intro w9 h9 hg9; (have H9 := Lib.hid (show RO (w.heap.size + 1) f8 0 0 w9 from h9)); (have HB9 := Lib.hid (below_grown HB.out HB.out.size hg9 (Nat.le_succ _))); clear h9 hg9)
    have hl := H9.out.load rfl
    exact bodyPost_ret (v := .agg (rsA (0, 0, 0))) (by simp [results, Try.results73, asAddr]; exact hl) rfl ⟨rfl, HB9.out⟩
  have HE := Lib.hid (plain_pre s h0 hs.1)
  have HX := Lib.hid h2.1
  have HY := Lib.hid h2.2.1
  have HB := Lib.hid h2.2.2
  have HS := Lib.hid hs
  have t0 : (n == 0) = false := by rw [beq_eq_false_iff_ne]; exact h0
  have HN := Lib.hid h0
  clear h2 hs h0
  by_cases h1 : (1 ≤ n ∧ n ≤ 5) ∨ (7 ≤ n ∧ n ≤ 9)
  · have HNe := Lib.hid (show n ≠ 39 ∧ n ≠ 49 from ⟨by omega, by omega⟩)
    obtain ⟨p, hp1, hp2, hp3⟩ := plN_yes h1
    have hpl := fun W => place_any n W
    rw [hp1] at hpl
    have HPl := Lib.hid hpl
    have hq := bl_or s.1 HS.out.1 p hp2
    have HF0 := Lib.hid (show blN (preF s.1 n) = (blN s.1).set p true from by unfold preF; rw [if_pos h1, hp3]; exact hq)
    have t1 : (n == 22) = false := by rw [beq_eq_false_iff_ne]; omega
    have t2 : decide (22 < n) = false := decide_eq_false (by omega)
    have z1 : (p : Int) < 8 := by omega
    have z2 : (0 : Int) ≤ (p : Int) := by omega
    have HP := Lib.hid hp2
    clear hpl hq hp1 hp2 hp3 h1
    go_enter Try.func73, Try.ntmps73
    go_upto_region 1 with (fail)
    refine wp_at fun W hW => ?_
    have hW2 : W = (w.alloc (.cells (rfA (blN s.1) s.2.1 s.2.2) tR)).alloc (.cells (rfA f8 0 0) tR) := hW.trans rfl
    rw [← hW2] at HX HY HB
    clear hW hW2
    have cp := HX.out.cb (blN_len s.1) HP.out
    have gp := HX.out.fz p
    go_upto_region 9 with (go_at_call 70; refine (HPl.out _).mono ?_; rintro e w1 ⟨rfl, hw1⟩; (rw [hw1]); clear hw1 w1)
    clear cp gp
    refine wp_at fun W2 hW2 => ?_
    obtain ⟨LL, hLL⟩ : ∃ L, (blN s.1).set p true = L := ⟨_, rfl⟩
    have HX2 := Lib.hid (show RO w.heap.size LL s.2.1 s.2.2 W2 from by rw [hW2, ← hLL]; exact HX.out.sb (blN_len s.1) HP.out true)
    have HY2 := Lib.hid (show RO (w.heap.size + 1) f8 0 0 W2 from by rw [hW2]; exact HY.out.grown (grown_set _ _ _ _) (by omega))
    have HB2 := Lib.hid (show Below w.heap.size w W2 from by rw [hW2]; exact HB.out.setCell (p := ⟨w.heap.size, p, none⟩) (Nat.le_refl _) (.bool true))
    have HLn := Lib.hid (show LL.length = 8 from by rw [← hLL]; simp [blN_len])
    have HF := Lib.hid (show blN (preF s.1 n) = LL from by rw [← hLL]; exact HF0.out)
    clear hLL hW2
    clear HX HY HB
    have HX := HX2
    have HY := HY2
    have HB := HB2
    clear HX2 HY2 HB2
    go_wp2_with fail
    go_loopg [5] 10 (fun g v5 w' => ∃ i : Nat, v5 = .int .i64 (i : Int) ∧ Hid (i ≤ 8 ∧ 8 < g + i) ∧ Hid (RO w.heap.size LL (fgA n s.2.1 i) (bgA n s.2.2 i) w') ∧ Hid (RO (w.heap.size + 1) f8 0 0 w') ∧ Hid (Below w.heap.size w w'))
    case atStart => exact ⟨0, rfl, Lib.hid ⟨by omega, by omega⟩, Lib.hid (by rw [fgA0, bgA0]; exact HX.out), HY, HB⟩
    case round =>
      obtain ⟨i, rfl, HJ, HO, HZ, HV⟩ := hrel
      clear HX HY HB
      cases gk with
      | zero => have := HJ.out; omega
      | succ k =>
        by_cases hi : i < 8
        · have HJ' := Lib.hid (show i < 8 ∧ 8 < (k + 1) + i from ⟨hi, HJ.out.2⟩)
          have z0 : (i : Int) < 8 := by omega
          have z1 : (0 : Int) ≤ (i : Int) := by omega
          have c8 := HO.out.c8 HLn.out
          have c9 := HO.out.c9 HLn.out
          have g8 := HO.out.fz 8
          have g9 := HO.out.fz 9
          clear HJ hi
          by_cases e30 : n = 30 + (i : Int)
          · have t30 : (n == 30 + (i : Int)) = true := by rw [beq_iff_eq]; exact e30
            have HV2 := Lib.hid (show fgA n s.2.1 (i + 1) = 16777216 + i from by unfold fgA; rw [if_pos (by omega)]; omega)
            have HV3 := Lib.hid (bgA_same (n := n) s.2.2 i (by omega) (by omega))
            clear e30
            go_wp2_with fail
            go_roundg k
            case measure => have := HJ'.out; omega
            case rel => exact ⟨i + 1, by go_num, Lib.hid (by have := HJ'.out; omega), Lib.hid (by rw [HV2.out, HV3.out]; exact HO.out.s8 HLn.out (16777216 + i)), Lib.hid (HZ.out.grown (grown_set _ _ _ _) (by omega)), Lib.hid (HV.out.setCell (p := ⟨w.heap.size, 8, none⟩) (Nat.le_refl _) _)⟩
          have t30 : (n == 30 + (i : Int)) = false := by rw [beq_eq_false_iff_ne]; exact e30
          by_cases e40 : n = 40 + (i : Int)
          · have t40 : (n == 40 + (i : Int)) = true := by rw [beq_iff_eq]; exact e40
            have HV2 := Lib.hid (show bgA n s.2.2 (i + 1) = 16777216 + i from by unfold bgA; rw [if_pos (by omega)]; omega)
            have HV3 := Lib.hid (fgA_same (n := n) s.2.1 i (by omega) (by omega))
            clear e30 e40
            go_wp2_with fail
            go_roundg k
            case measure => have := HJ'.out; omega
            case rel => exact ⟨i + 1, by go_num, Lib.hid (by have := HJ'.out; omega), Lib.hid (by rw [HV2.out, HV3.out]; exact HO.out.s9 HLn.out (16777216 + i)), Lib.hid (HZ.out.grown (grown_set _ _ _ _) (by omega)), Lib.hid (HV.out.setCell (p := ⟨w.heap.size, 9, none⟩) (Nat.le_refl _) _)⟩
          have t40 : (n == 40 + (i : Int)) = false := by rw [beq_eq_false_iff_ne]; exact e40
          by_cases e90 : n = 90 + (i : Int)
          · have t90 : (n == 90 + (i : Int)) = true := by rw [beq_iff_eq]; exact e90
            have HV2 := Lib.hid (show fgA n s.2.1 (i + 1) = 16777216 + i + 8 from by unfold fgA; rw [if_neg (by omega), if_pos (by omega)]; omega)
            have HV3 := Lib.hid (bgA_same (n := n) s.2.2 i (by omega) (by omega))
            clear e30 e40 e90
            go_wp2_with fail
            go_roundg k
            case measure => have := HJ'.out; omega
            case rel => exact ⟨i + 1, by go_num, Lib.hid (by have := HJ'.out; omega), Lib.hid (by rw [HV2.out, HV3.out]; exact HO.out.s8 HLn.out (16777216 + i + 8)), Lib.hid (HZ.out.grown (grown_set _ _ _ _) (by omega)), Lib.hid (HV.out.setCell (p := ⟨w.heap.size, 8, none⟩) (Nat.le_refl _) _)⟩
          have t90 : (n == 90 + (i : Int)) = false := by rw [beq_eq_false_iff_ne]; exact e90
          by_cases e100 : n = 100 + (i : Int)
          · have t100 : (n == 100 + (i : Int)) = true := by rw [beq_iff_eq]; exact e100
            have HV2 := Lib.hid (show bgA n s.2.2 (i + 1) = 16777216 + i + 8 from by unfold bgA; rw [if_neg (by omega), if_pos (by omega)]; omega)
            have HV3 := Lib.hid (fgA_same (n := n) s.2.1 i (by omega) (by omega))
            clear e30 e40 e90 e100
            go_wp2_with fail
            go_roundg k
            case measure => have := HJ'.out; omega
            case rel => exact ⟨i + 1, by go_num, Lib.hid (by have := HJ'.out; omega), Lib.hid (by rw [HV2.out, HV3.out]; exact HO.out.s9 HLn.out (16777216 + i + 8)), Lib.hid (HZ.out.grown (grown_set _ _ _ _) (by omega)), Lib.hid (HV.out.setCell (p := ⟨w.heap.size, 9, none⟩) (Nat.le_refl _) _)⟩
          have t100 : (n == 100 + (i : Int)) = false := by rw [beq_eq_false_iff_ne]; exact e100
          have HV2 := Lib.hid (fgA_same (n := n) s.2.1 i e30 e90)
          have HV3 := Lib.hid (bgA_same (n := n) s.2.2 i e40 e100)
          clear e30 e40 e90 e100
          go_wp2_with fail
          go_roundg k
          case measure => have := HJ'.out; omega
          case rel => exact ⟨i + 1, by go_num, Lib.hid (by have := HJ'.out; omega), Lib.hid (by rw [HV2.out, HV3.out]; exact HO.out), HZ, HV⟩
        · obtain rfl : i = 8 := by have := HJ.out; omega
          have c8 := HO.out.c8 HLn.out
          have c9 := HO.out.c9 HLn.out
          have g8 := HO.out.fz 8
          have g9 := HO.out.fz 9
          clear HJ hi
          have LAST : Hid (∀ (A C : Nat) (W9 : World), RO w.heap.size LL A C W9 → A = (if n = 39 then 0 else fgA n s.2.1 8) → C = (if n = 49 then 0 else bgA n s.2.2 8) → rsA (plainS s n) = rfA LL A C) := Lib.hid (fun A C W9 _ hA hC => by
            rw [HE.out]; unfold rsA; dsimp only; rw [HF.out, hA, hC])
          have e39 : n ≠ 39 := HNe.out.1
          have t39 : (n == 39) = false := by rw [beq_eq_false_iff_ne]; exact e39
          have e49 : n ≠ 49 := HNe.out.2
          have t49 : (n == 49) = false := by rw [beq_eq_false_iff_ne]; exact e49
          have HL1 := Lib.hid (LAST.out _ _ _ HO.out (by rw [if_neg e39]) (by rw [if_neg e49]))
          clear e39 e49
          obtain ⟨A, hA⟩ : ∃ A, fgA n s.2.1 8 = A := ⟨_, rfl⟩
          obtain ⟨C, hC⟩ : ∃ C, bgA n s.2.2 8 = C := ⟨_, rfl⟩
          rw [hA, hC] at HO HL1
          go_wp2_with (first
            | (refine load_obj w.heap.size (rfA LL A C) rfl rfl rfl (HO.out.load HLn.out) ?_)
            | (refine store_obj (w.heap.size + 1) (rfA f8 0 0) (rfA LL A C) rfl rfl rfl rfl rfl HZ.out (by rw [rfA_size HLn.out]; exact info_R) (by rw [rfA_size HLn.out]; rfl) (rfA_one _ _ _) ?_; intro w9 h9 hg9; (have H9 := Lib.hid (show RO (w.heap.size + 1) LL A C w9 from h9)); (have HB9 := Lib.hid (below_grown HV.out HV.out.size hg9 (Nat.le_succ _))); clear h9 hg9))
          have hl := H9.out.load HLn.out
          exact bodyPost_ret (v := .agg (rfA LL A C)) (by simp [results, Try.results73, asAddr]; exact hl) rfl ⟨by rw [HL1.out], HB9.out⟩
  by_cases h2 : n = 22
  · subst h2
    have HNe := Lib.hid (show (22 : Int) ≠ 39 ∧ (22 : Int) ≠ 49 from ⟨by decide, by decide⟩)
    have hpl := fun W => place_any 22 W
    rw [show plN 22 = -1 from rfl] at hpl
    have HPl := Lib.hid hpl
    have HF0 := Lib.hid (show blN (preF s.1 22) = ((blN s.1).set 0 false).set 1 false from by rw [show preF s.1 22 = s.1 &&& 252 from rfl]; exact bl_22 s.1 HS.out.1)
    clear hpl h1
    clear t0
    go_enter Try.func73, Try.ntmps73
    go_upto_region 1 with (fail)
    refine wp_at fun W hW => ?_
    have hW2 : W = (w.alloc (.cells (rfA (blN s.1) s.2.1 s.2.2) tR)).alloc (.cells (rfA f8 0 0) tR) := hW.trans rfl
    rw [← hW2] at HX HY HB
    clear hW hW2
    have cp := HX.out.cb (blN_len s.1) (show 0 < 8 by decide)
    have gp := HX.out.fz 0
    have cp1 := HX.out.cb (blN_len s.1) (show 1 < 8 by decide)
    have gp1 := HX.out.fz 1
    go_upto_region 9 with (go_at_call 70; refine (HPl.out _).mono ?_; rintro e w1 ⟨rfl, hw1⟩; (rw [hw1]); clear hw1 w1)
    clear cp gp cp1 gp1
    refine wp_at fun W2 hW2 => ?_
    obtain ⟨LL, hLL⟩ : ∃ L, ((blN s.1).set 0 false).set 1 false = L := ⟨_, rfl⟩
    have HX2 := Lib.hid (show RO w.heap.size LL s.2.1 s.2.2 W2 from by rw [hW2, ← hLL]; exact (HX.out.sb (blN_len s.1) (show 0 < 8 by decide) false).sb (by simp [blN_len]) (show 1 < 8 by decide) false)
    have HY2 := Lib.hid (show RO (w.heap.size + 1) f8 0 0 W2 from by rw [hW2]; exact (HY.out.grown (grown_set _ _ _ _) (by omega)).grown (grown_set _ _ _ _) (by omega))
    have HB2 := Lib.hid (show Below w.heap.size w W2 from by rw [hW2]; exact (HB.out.setCell (p := ⟨w.heap.size, 0, none⟩) (Nat.le_refl _) (.bool false)).setCell (p := ⟨w.heap.size, 1, none⟩) (Nat.le_refl _) (.bool false))
    have HLn := Lib.hid (show LL.length = 8 from by rw [← hLL]; simp [blN_len])
    have HF := Lib.hid (show blN (preF s.1 22) = LL from by rw [← hLL]; exact HF0.out)
    clear hLL hW2
    clear HX HY HB
    have HX := HX2
    have HY := HY2
    have HB := HB2
    clear HX2 HY2 HB2
    go_wp2_with fail
    go_loopg [5] 10 (fun g v5 w' => ∃ i : Nat, v5 = .int .i64 (i : Int) ∧ Hid (i ≤ 8 ∧ 8 < g + i) ∧ Hid (RO w.heap.size LL (fgA 22 s.2.1 i) (bgA 22 s.2.2 i) w') ∧ Hid (RO (w.heap.size + 1) f8 0 0 w') ∧ Hid (Below w.heap.size w w'))
    case atStart => exact ⟨0, rfl, Lib.hid ⟨by omega, by omega⟩, Lib.hid (by rw [fgA0, bgA0]; exact HX.out), HY, HB⟩
    case round =>
      obtain ⟨i, rfl, HJ, HO, HZ, HV⟩ := hrel
      clear HX HY HB
      cases gk with
      | zero => have := HJ.out; omega
      | succ k =>
        by_cases hi : i < 8
        · have HJ' := Lib.hid (show i < 8 ∧ 8 < (k + 1) + i from ⟨hi, HJ.out.2⟩)
          have z0 : (i : Int) < 8 := by omega
          have z1 : (0 : Int) ≤ (i : Int) := by omega
          have c8 := HO.out.c8 HLn.out
          have c9 := HO.out.c9 HLn.out
          have g8 := HO.out.fz 8
          have g9 := HO.out.fz 9
          clear HJ hi
          by_cases e30 : (22 : Int) = 30 + (i : Int)
          · have t30 : ((22 : Int) == 30 + (i : Int)) = true := by rw [beq_iff_eq]; exact e30
            have HV2 := Lib.hid (show fgA 22 s.2.1 (i + 1) = 16777216 + i from by unfold fgA; rw [if_pos (by omega)]; omega)
            have HV3 := Lib.hid (bgA_same (n := 22) s.2.2 i (by omega) (by omega))
            clear e30
            go_wp2_with fail
            go_roundg k
            case measure => have := HJ'.out; omega
            case rel => exact ⟨i + 1, by go_num, Lib.hid (by have := HJ'.out; omega), Lib.hid (by rw [HV2.out, HV3.out]; exact HO.out.s8 HLn.out (16777216 + i)), Lib.hid (HZ.out.grown (grown_set _ _ _ _) (by omega)), Lib.hid (HV.out.setCell (p := ⟨w.heap.size, 8, none⟩) (Nat.le_refl _) _)⟩
          have t30 : ((22 : Int) == 30 + (i : Int)) = false := by rw [beq_eq_false_iff_ne]; exact e30
          by_cases e40 : (22 : Int) = 40 + (i : Int)
          · have t40 : ((22 : Int) == 40 + (i : Int)) = true := by rw [beq_iff_eq]; exact e40
            have HV2 := Lib.hid (show bgA 22 s.2.2 (i + 1) = 16777216 + i from by unfold bgA; rw [if_pos (by omega)]; omega)
            have HV3 := Lib.hid (fgA_same (n := 22) s.2.1 i (by omega) (by omega))
            clear e30 e40
            go_wp2_with fail
            go_roundg k
            case measure => have := HJ'.out; omega
            case rel => exact ⟨i + 1, by go_num, Lib.hid (by have := HJ'.out; omega), Lib.hid (by rw [HV2.out, HV3.out]; exact HO.out.s9 HLn.out (16777216 + i)), Lib.hid (HZ.out.grown (grown_set _ _ _ _) (by omega)), Lib.hid (HV.out.setCell (p := ⟨w.heap.size, 9, none⟩) (Nat.le_refl _) _)⟩
          have t40 : ((22 : Int) == 40 + (i : Int)) = false := by rw [beq_eq_false_iff_ne]; exact e40
          by_cases e90 : (22 : Int) = 90 + (i : Int)
          · have t90 : ((22 : Int) == 90 + (i : Int)) = true := by rw [beq_iff_eq]; exact e90
            have HV2 := Lib.hid (show fgA 22 s.2.1 (i + 1) = 16777216 + i + 8 from by unfold fgA; rw [if_neg (by omega), if_pos (by omega)]; omega)
            have HV3 := Lib.hid (bgA_same (n := 22) s.2.2 i (by omega) (by omega))
            clear e30 e40 e90
            go_wp2_with fail
            go_roundg k
            case measure => have := HJ'.out; omega
            case rel => exact ⟨i + 1, by go_num, Lib.hid (by have := HJ'.out; omega), Lib.hid (by rw [HV2.out, HV3.out]; exact HO.out.s8 HLn.out (16777216 + i + 8)), Lib.hid (HZ.out.grown (grown_set _ _ _ _) (by omega)), Lib.hid (HV.out.setCell (p := ⟨w.heap.size, 8, none⟩) (Nat.le_refl _) _)⟩
          have t90 : ((22 : Int) == 90 + (i : Int)) = false := by rw [beq_eq_false_iff_ne]; exact e90
          by_cases e100 : (22 : Int) = 100 + (i : Int)
          · have t100 : ((22 : Int) == 100 + (i : Int)) = true := by rw [beq_iff_eq]; exact e100
            have HV2 := Lib.hid (show bgA 22 s.2.2 (i + 1) = 16777216 + i + 8 from by unfold bgA; rw [if_neg (by omega), if_pos (by omega)]; omega)
            have HV3 := Lib.hid (fgA_same (n := 22) s.2.1 i (by omega) (by omega))
            clear e30 e40 e90 e100
            go_wp2_with fail
            go_roundg k
            case measure => have := HJ'.out; omega
            case rel => exact ⟨i + 1, by go_num, Lib.hid (by have := HJ'.out; omega), Lib.hid (by rw [HV2.out, HV3.out]; exact HO.out.s9 HLn.out (16777216 + i + 8)), Lib.hid (HZ.out.grown (grown_set _ _ _ _) (by omega)), Lib.hid (HV.out.setCell (p := ⟨w.heap.size, 9, none⟩) (Nat.le_refl _) _)⟩
          have t100 : ((22 : Int) == 100 + (i : Int)) = false := by rw [beq_eq_false_iff_ne]; exact e100
          have HV2 := Lib.hid (fgA_same (n := 22) s.2.1 i e30 e90)
          have HV3 := Lib.hid (bgA_same (n := 22) s.2.2 i e40 e100)
          clear e30 e40 e90 e100
          go_wp2_with fail
          go_roundg k
          case measure => have := HJ'.out; omega
          case rel => exact ⟨i + 1, by go_num, Lib.hid (by have := HJ'.out; omega), Lib.hid (by rw [HV2.out, HV3.out]; exact HO.out), HZ, HV⟩
        · obtain rfl : i = 8 := by have := HJ.out; omega
          have c8 := HO.out.c8 HLn.out
          have c9 := HO.out.c9 HLn.out
          have g8 := HO.out.fz 8
          have g9 := HO.out.fz 9
          clear HJ hi
          have LAST : Hid (∀ (A C : Nat) (W9 : World), RO w.heap.size LL A C W9 → A = (if (22 : Int) = 39 then 0 else fgA 22 s.2.1 8) → C = (if (22 : Int) = 49 then 0 else bgA 22 s.2.2 8) → rsA (plainS s 22) = rfA LL A C) := Lib.hid (fun A C W9 _ hA hC => by
            rw [HE.out]; unfold rsA; dsimp only; rw [HF.out, hA, hC])
          have e39 : (22 : Int) ≠ 39 := HNe.out.1
          have t39 : ((22 : Int) == 39) = false := by rw [beq_eq_false_iff_ne]; exact e39
          have e49 : (22 : Int) ≠ 49 := HNe.out.2
          have t49 : ((22 : Int) == 49) = false := by rw [beq_eq_false_iff_ne]; exact e49
          have HL1 := Lib.hid (LAST.out _ _ _ HO.out (by rw [if_neg e39]) (by rw [if_neg e49]))
          clear e39 e49
          obtain ⟨A, hA⟩ : ∃ A, fgA 22 s.2.1 8 = A := ⟨_, rfl⟩
          obtain ⟨C, hC⟩ : ∃ C, bgA 22 s.2.2 8 = C := ⟨_, rfl⟩
          rw [hA, hC] at HO HL1
          go_wp2_with (first
            | (refine load_obj w.heap.size (rfA LL A C) rfl rfl rfl (HO.out.load HLn.out) ?_)
            | (refine store_obj (w.heap.size + 1) (rfA f8 0 0) (rfA LL A C) rfl rfl rfl rfl rfl HZ.out (by rw [rfA_size HLn.out]; exact info_R) (by rw [rfA_size HLn.out]; rfl) (rfA_one _ _ _) ?_; intro w9 h9 hg9; (have H9 := Lib.hid (show RO (w.heap.size + 1) LL A C w9 from h9)); (have HB9 := Lib.hid (below_grown HV.out HV.out.size hg9 (Nat.le_succ _))); clear h9 hg9))
          have hl := H9.out.load HLn.out
          exact bodyPost_ret (v := .agg (rfA LL A C)) (by simp [results, Try.results73, asAddr]; exact hl) rfl ⟨by rw [HL1.out], HB9.out⟩
  by_cases h3 : (23 ≤ n ∧ n ≤ 25) ∨ (27 ≤ n ∧ n ≤ 29)
  · have HNe := Lib.hid (show n ≠ 39 ∧ n ≠ 49 from ⟨by omega, by omega⟩)
    obtain ⟨p, hp1, hp2, hp3⟩ := plN_yes (n := n - 20) (by omega)
    have hpn := plN_no h1
    have hq := bl_and s.1 HS.out.1 p hp2
    have HF0 := Lib.hid (show blN (preF s.1 n) = (blN s.1).set p false from by unfold preF; rw [if_neg h1, if_neg h2, if_pos h3, hp3]; exact hq)
    have t1 : (n == 22) = false := by rw [beq_eq_false_iff_ne]; exact h2
    have t2 : decide (22 < n) = true := decide_eq_true (by omega)
    have t3 : decide (n < 30) = true := decide_eq_true (by omega)
    have z1 : (p : Int) < 8 := by omega
    have z2 : (0 : Int) ≤ (p : Int) := by omega
    have z3 : n < 30 := by omega
    have z4 : 22 < n := by omega
    have HP := Lib.hid hp2
    have HP1 := Lib.hid hp1
    have HPn := Lib.hid hpn
    clear hpn hq hp1 hp2 hp3 h1 h2 h3
    go_enter Try.func73, Try.ntmps73
    go_upto_region 1 with (fail)
    refine wp_at fun W hW => ?_
    have hW2 : W = (w.alloc (.cells (rfA (blN s.1) s.2.1 s.2.2) tR)).alloc (.cells (rfA f8 0 0) tR) := hW.trans rfl
    rw [← hW2] at HX HY HB
    clear hW hW2
    have cp := HX.out.cb (blN_len s.1) HP.out
    have gp := HX.out.fz p
    go_upto_region 9 with (go_at_call 70; refine (place_any _ _).mono ?_; rintro e w1 ⟨rfl, hw1⟩; (rw [hw1]); (first | rw [HPn.out] | rw [HP1.out]); clear hw1 w1)
    clear cp gp
    refine wp_at fun W2 hW2 => ?_
    obtain ⟨LL, hLL⟩ : ∃ L, (blN s.1).set p false = L := ⟨_, rfl⟩
    have HX2 := Lib.hid (show RO w.heap.size LL s.2.1 s.2.2 W2 from by rw [hW2, ← hLL]; exact HX.out.sb (blN_len s.1) HP.out false)
    have HY2 := Lib.hid (show RO (w.heap.size + 1) f8 0 0 W2 from by rw [hW2]; exact HY.out.grown (grown_set _ _ _ _) (by omega))
    have HB2 := Lib.hid (show Below w.heap.size w W2 from by rw [hW2]; exact HB.out.setCell (p := ⟨w.heap.size, p, none⟩) (Nat.le_refl _) (.bool false))
    have HLn := Lib.hid (show LL.length = 8 from by rw [← hLL]; simp [blN_len])
    have HF := Lib.hid (show blN (preF s.1 n) = LL from by rw [← hLL]; exact HF0.out)
    clear hLL hW2
    clear HX HY HB
    have HX := HX2
    have HY := HY2
    have HB := HB2
    clear HX2 HY2 HB2
    go_wp2_with fail
    go_loopg [5] 10 (fun g v5 w' => ∃ i : Nat, v5 = .int .i64 (i : Int) ∧ Hid (i ≤ 8 ∧ 8 < g + i) ∧ Hid (RO w.heap.size LL (fgA n s.2.1 i) (bgA n s.2.2 i) w') ∧ Hid (RO (w.heap.size + 1) f8 0 0 w') ∧ Hid (Below w.heap.size w w'))
    case atStart => exact ⟨0, rfl, Lib.hid ⟨by omega, by omega⟩, Lib.hid (by rw [fgA0, bgA0]; exact HX.out), HY, HB⟩
    case round =>
      obtain ⟨i, rfl, HJ, HO, HZ, HV⟩ := hrel
      clear HX HY HB
      cases gk with
      | zero => have := HJ.out; omega
      | succ k =>
        by_cases hi : i < 8
        · have HJ' := Lib.hid (show i < 8 ∧ 8 < (k + 1) + i from ⟨hi, HJ.out.2⟩)
          have z0 : (i : Int) < 8 := by omega
          have z1 : (0 : Int) ≤ (i : Int) := by omega
          have c8 := HO.out.c8 HLn.out
          have c9 := HO.out.c9 HLn.out
          have g8 := HO.out.fz 8
          have g9 := HO.out.fz 9
          clear HJ hi
          by_cases e30 : n = 30 + (i : Int)
          · have t30 : (n == 30 + (i : Int)) = true := by rw [beq_iff_eq]; exact e30
            have HV2 := Lib.hid (show fgA n s.2.1 (i + 1) = 16777216 + i from by unfold fgA; rw [if_pos (by omega)]; omega)
            have HV3 := Lib.hid (bgA_same (n := n) s.2.2 i (by omega) (by omega))
            clear e30
            go_wp2_with fail
            go_roundg k
            case measure => have := HJ'.out; omega
            case rel => exact ⟨i + 1, by go_num, Lib.hid (by have := HJ'.out; omega), Lib.hid (by rw [HV2.out, HV3.out]; exact HO.out.s8 HLn.out (16777216 + i)), Lib.hid (HZ.out.grown (grown_set _ _ _ _) (by omega)), Lib.hid (HV.out.setCell (p := ⟨w.heap.size, 8, none⟩) (Nat.le_refl _) _)⟩
          have t30 : (n == 30 + (i : Int)) = false := by rw [beq_eq_false_iff_ne]; exact e30
          by_cases e40 : n = 40 + (i : Int)
          · have t40 : (n == 40 + (i : Int)) = true := by rw [beq_iff_eq]; exact e40
            have HV2 := Lib.hid (show bgA n s.2.2 (i + 1) = 16777216 + i from by unfold bgA; rw [if_pos (by omega)]; omega)
            have HV3 := Lib.hid (fgA_same (n := n) s.2.1 i (by omega) (by omega))
            clear e30 e40
            go_wp2_with fail
            go_roundg k
            case measure => have := HJ'.out; omega
            case rel => exact ⟨i + 1, by go_num, Lib.hid (by have := HJ'.out; omega), Lib.hid (by rw [HV2.out, HV3.out]; exact HO.out.s9 HLn.out (16777216 + i)), Lib.hid (HZ.out.grown (grown_set _ _ _ _) (by omega)), Lib.hid (HV.out.setCell (p := ⟨w.heap.size, 9, none⟩) (Nat.le_refl _) _)⟩
          have t40 : (n == 40 + (i : Int)) = false := by rw [beq_eq_false_iff_ne]; exact e40
          by_cases e90 : n = 90 + (i : Int)
          · have t90 : (n == 90 + (i : Int)) = true := by rw [beq_iff_eq]; exact e90
            have HV2 := Lib.hid (show fgA n s.2.1 (i + 1) = 16777216 + i + 8 from by unfold fgA; rw [if_neg (by omega), if_pos (by omega)]; omega)
            have HV3 := Lib.hid (bgA_same (n := n) s.2.2 i (by omega) (by omega))
            clear e30 e40 e90
            go_wp2_with fail
            go_roundg k
            case measure => have := HJ'.out; omega
            case rel => exact ⟨i + 1, by go_num, Lib.hid (by have := HJ'.out; omega), Lib.hid (by rw [HV2.out, HV3.out]; exact HO.out.s8 HLn.out (16777216 + i + 8)), Lib.hid (HZ.out.grown (grown_set _ _ _ _) (by omega)), Lib.hid (HV.out.setCell (p := ⟨w.heap.size, 8, none⟩) (Nat.le_refl _) _)⟩
          have t90 : (n == 90 + (i : Int)) = false := by rw [beq_eq_false_iff_ne]; exact e90
          by_cases e100 : n = 100 + (i : Int)
          · have t100 : (n == 100 + (i : Int)) = true := by rw [beq_iff_eq]; exact e100
            have HV2 := Lib.hid (show bgA n s.2.2 (i + 1) = 16777216 + i + 8 from by unfold bgA; rw [if_neg (by omega), if_pos (by omega)]; omega)
            have HV3 := Lib.hid (fgA_same (n := n) s.2.1 i (by omega) (by omega))
            clear e30 e40 e90 e100
            go_wp2_with fail
            go_roundg k
            case measure => have := HJ'.out; omega
            case rel => exact ⟨i + 1, by go_num, Lib.hid (by have := HJ'.out; omega), Lib.hid (by rw [HV2.out, HV3.out]; exact HO.out.s9 HLn.out (16777216 + i + 8)), Lib.hid (HZ.out.grown (grown_set _ _ _ _) (by omega)), Lib.hid (HV.out.setCell (p := ⟨w.heap.size, 9, none⟩) (Nat.le_refl _) _)⟩
          have t100 : (n == 100 + (i : Int)) = false := by rw [beq_eq_false_iff_ne]; exact e100
          have HV2 := Lib.hid (fgA_same (n := n) s.2.1 i e30 e90)
          have HV3 := Lib.hid (bgA_same (n := n) s.2.2 i e40 e100)
          clear e30 e40 e90 e100
          go_wp2_with fail
          go_roundg k
          case measure => have := HJ'.out; omega
          case rel => exact ⟨i + 1, by go_num, Lib.hid (by have := HJ'.out; omega), Lib.hid (by rw [HV2.out, HV3.out]; exact HO.out), HZ, HV⟩
        · obtain rfl : i = 8 := by have := HJ.out; omega
          have c8 := HO.out.c8 HLn.out
          have c9 := HO.out.c9 HLn.out
          have g8 := HO.out.fz 8
          have g9 := HO.out.fz 9
          clear HJ hi
          have LAST : Hid (∀ (A C : Nat) (W9 : World), RO w.heap.size LL A C W9 → A = (if n = 39 then 0 else fgA n s.2.1 8) → C = (if n = 49 then 0 else bgA n s.2.2 8) → rsA (plainS s n) = rfA LL A C) := Lib.hid (fun A C W9 _ hA hC => by
            rw [HE.out]; unfold rsA; dsimp only; rw [HF.out, hA, hC])
          have e39 : n ≠ 39 := HNe.out.1
          have t39 : (n == 39) = false := by rw [beq_eq_false_iff_ne]; exact e39
          have e49 : n ≠ 49 := HNe.out.2
          have t49 : (n == 49) = false := by rw [beq_eq_false_iff_ne]; exact e49
          have HL1 := Lib.hid (LAST.out _ _ _ HO.out (by rw [if_neg e39]) (by rw [if_neg e49]))
          clear e39 e49
          obtain ⟨A, hA⟩ : ∃ A, fgA n s.2.1 8 = A := ⟨_, rfl⟩
          obtain ⟨C, hC⟩ : ∃ C, bgA n s.2.2 8 = C := ⟨_, rfl⟩
          rw [hA, hC] at HO HL1
          go_wp2_with (first
            | (refine load_obj w.heap.size (rfA LL A C) rfl rfl rfl (HO.out.load HLn.out) ?_)
            | (refine store_obj (w.heap.size + 1) (rfA f8 0 0) (rfA LL A C) rfl rfl rfl rfl rfl HZ.out (by rw [rfA_size HLn.out]; exact info_R) (by rw [rfA_size HLn.out]; rfl) (rfA_one _ _ _) ?_; intro w9 h9 hg9; (have H9 := Lib.hid (show RO (w.heap.size + 1) LL A C w9 from h9)); (have HB9 := Lib.hid (below_grown HV.out HV.out.size hg9 (Nat.le_succ _))); clear h9 hg9))
          have hl := H9.out.load HLn.out
          exact bodyPost_ret (v := .agg (rfA LL A C)) (by simp [results, Try.results73, asAddr]; exact hl) rfl ⟨by rw [HL1.out], HB9.out⟩
  by_cases h4 : n = 26
  · have HNe := Lib.hid (show n ≠ 39 ∧ n ≠ 49 from ⟨by omega, by omega⟩)
    have HP1 := Lib.hid (show plN (n - 20) = -1 from by rw [h4]; rfl)
    have hpn := plN_no h1
    have HF0 := Lib.hid (show blN (preF s.1 n) = blN s.1 from by unfold preF; rw [if_neg h1, if_neg h2, if_neg h3])
    have t1 : (n == 22) = false := by rw [beq_eq_false_iff_ne]; exact h2
    have HPn := Lib.hid hpn
    have t2 : decide (22 < n) = true := decide_eq_true (by omega)
    have t3 : decide (n < 30) = true := decide_eq_true (by omega)
    have z3 : n < 30 := by omega
    have z4 : 22 < n := by omega
    clear hpn h1 h2 h3 h4
    go_enter Try.func73, Try.ntmps73
    go_upto_region 1 with (fail)
    refine wp_at fun W hW => ?_
    have hW2 : W = (w.alloc (.cells (rfA (blN s.1) s.2.1 s.2.2) tR)).alloc (.cells (rfA f8 0 0) tR) := hW.trans rfl
    rw [← hW2] at HX HY HB
    clear hW hW2
    go_upto_region 9 with (go_at_call 70; refine (place_any _ _).mono ?_; rintro e w1 ⟨rfl, hw1⟩; (rw [hw1]); (first | rw [HPn.out] | rw [HP1.out]); clear hw1 w1)
    refine wp_at fun W2 hW2 => ?_
    obtain ⟨LL, hLL⟩ : ∃ L, blN s.1 = L := ⟨_, rfl⟩
    have HX2 := Lib.hid (show RO w.heap.size LL s.2.1 s.2.2 W2 from by rw [hW2, ← hLL]; exact HX.out)
    have HY2 := Lib.hid (show RO (w.heap.size + 1) f8 0 0 W2 from by rw [hW2]; exact HY.out)
    have HB2 := Lib.hid (show Below w.heap.size w W2 from by rw [hW2]; exact HB.out)
    have HLn := Lib.hid (show LL.length = 8 from by rw [← hLL]; simp [blN_len])
    have HF := Lib.hid (show blN (preF s.1 n) = LL from by rw [← hLL]; exact HF0.out)
    clear hLL hW2
    clear HX HY HB
    have HX := HX2
    have HY := HY2
    have HB := HB2
    clear HX2 HY2 HB2
    go_wp2_with fail
    go_loopg [5] 10 (fun g v5 w' => ∃ i : Nat, v5 = .int .i64 (i : Int) ∧ Hid (i ≤ 8 ∧ 8 < g + i) ∧ Hid (RO w.heap.size LL (fgA n s.2.1 i) (bgA n s.2.2 i) w') ∧ Hid (RO (w.heap.size + 1) f8 0 0 w') ∧ Hid (Below w.heap.size w w'))
    case atStart => exact ⟨0, rfl, Lib.hid ⟨by omega, by omega⟩, Lib.hid (by rw [fgA0, bgA0]; exact HX.out), HY, HB⟩
    case round =>
      obtain ⟨i, rfl, HJ, HO, HZ, HV⟩ := hrel
      clear HX HY HB
      cases gk with
      | zero => have := HJ.out; omega
      | succ k =>
        by_cases hi : i < 8
        · have HJ' := Lib.hid (show i < 8 ∧ 8 < (k + 1) + i from ⟨hi, HJ.out.2⟩)
          have z0 : (i : Int) < 8 := by omega
          have z1 : (0 : Int) ≤ (i : Int) := by omega
          have c8 := HO.out.c8 HLn.out
          have c9 := HO.out.c9 HLn.out
          have g8 := HO.out.fz 8
          have g9 := HO.out.fz 9
          clear HJ hi
          by_cases e30 : n = 30 + (i : Int)
          · have t30 : (n == 30 + (i : Int)) = true := by rw [beq_iff_eq]; exact e30
            have HV2 := Lib.hid (show fgA n s.2.1 (i + 1) = 16777216 + i from by unfold fgA; rw [if_pos (by omega)]; omega)
            have HV3 := Lib.hid (bgA_same (n := n) s.2.2 i (by omega) (by omega))
            clear e30
            go_wp2_with fail
            go_roundg k
            case measure => have := HJ'.out; omega
            case rel => exact ⟨i + 1, by go_num, Lib.hid (by have := HJ'.out; omega), Lib.hid (by rw [HV2.out, HV3.out]; exact HO.out.s8 HLn.out (16777216 + i)), Lib.hid (HZ.out.grown (grown_set _ _ _ _) (by omega)), Lib.hid (HV.out.setCell (p := ⟨w.heap.size, 8, none⟩) (Nat.le_refl _) _)⟩
          have t30 : (n == 30 + (i : Int)) = false := by rw [beq_eq_false_iff_ne]; exact e30
          by_cases e40 : n = 40 + (i : Int)
          · have t40 : (n == 40 + (i : Int)) = true := by rw [beq_iff_eq]; exact e40
            have HV2 := Lib.hid (show bgA n s.2.2 (i + 1) = 16777216 + i from by unfold bgA; rw [if_pos (by omega)]; omega)
            have HV3 := Lib.hid (fgA_same (n := n) s.2.1 i (by omega) (by omega))
            clear e30 e40
            go_wp2_with fail
            go_roundg k
            case measure => have := HJ'.out; omega
            case rel => exact ⟨i + 1, by go_num, Lib.hid (by have := HJ'.out; omega), Lib.hid (by rw [HV2.out, HV3.out]; exact HO.out.s9 HLn.out (16777216 + i)), Lib.hid (HZ.out.grown (grown_set _ _ _ _) (by omega)), Lib.hid (HV.out.setCell (p := ⟨w.heap.size, 9, none⟩) (Nat.le_refl _) _)⟩
          have t40 : (n == 40 + (i : Int)) = false := by rw [beq_eq_false_iff_ne]; exact e40
          by_cases e90 : n = 90 + (i : Int)
          · have t90 : (n == 90 + (i : Int)) = true := by rw [beq_iff_eq]; exact e90
            have HV2 := Lib.hid (show fgA n s.2.1 (i + 1) = 16777216 + i + 8 from by unfold fgA; rw [if_neg (by omega), if_pos (by omega)]; omega)
            have HV3 := Lib.hid (bgA_same (n := n) s.2.2 i (by omega) (by omega))
            clear e30 e40 e90
            go_wp2_with fail
            go_roundg k
            case measure => have := HJ'.out; omega
            case rel => exact ⟨i + 1, by go_num, Lib.hid (by have := HJ'.out; omega), Lib.hid (by rw [HV2.out, HV3.out]; exact HO.out.s8 HLn.out (16777216 + i + 8)), Lib.hid (HZ.out.grown (grown_set _ _ _ _) (by omega)), Lib.hid (HV.out.setCell (p := ⟨w.heap.size, 8, none⟩) (Nat.le_refl _) _)⟩
          have t90 : (n == 90 + (i : Int)) = false := by rw [beq_eq_false_iff_ne]; exact e90
          by_cases e100 : n = 100 + (i : Int)
          · have t100 : (n == 100 + (i : Int)) = true := by rw [beq_iff_eq]; exact e100
            have HV2 := Lib.hid (show bgA n s.2.2 (i + 1) = 16777216 + i + 8 from by unfold bgA; rw [if_neg (by omega), if_pos (by omega)]; omega)
            have HV3 := Lib.hid (fgA_same (n := n) s.2.1 i (by omega) (by omega))
            clear e30 e40 e90 e100
            go_wp2_with fail
            go_roundg k
            case measure => have := HJ'.out; omega
            case rel => exact ⟨i + 1, by go_num, Lib.hid (by have := HJ'.out; omega), Lib.hid (by rw [HV2.out, HV3.out]; exact HO.out.s9 HLn.out (16777216 + i + 8)), Lib.hid (HZ.out.grown (grown_set _ _ _ _) (by omega)), Lib.hid (HV.out.setCell (p := ⟨w.heap.size, 9, none⟩) (Nat.le_refl _) _)⟩
          have t100 : (n == 100 + (i : Int)) = false := by rw [beq_eq_false_iff_ne]; exact e100
          have HV2 := Lib.hid (fgA_same (n := n) s.2.1 i e30 e90)
          have HV3 := Lib.hid (bgA_same (n := n) s.2.2 i e40 e100)
          clear e30 e40 e90 e100
          go_wp2_with fail
          go_roundg k
          case measure => have := HJ'.out; omega
          case rel => exact ⟨i + 1, by go_num, Lib.hid (by have := HJ'.out; omega), Lib.hid (by rw [HV2.out, HV3.out]; exact HO.out), HZ, HV⟩
        · obtain rfl : i = 8 := by have := HJ.out; omega
          have c8 := HO.out.c8 HLn.out
          have c9 := HO.out.c9 HLn.out
          have g8 := HO.out.fz 8
          have g9 := HO.out.fz 9
          clear HJ hi
          have LAST : Hid (∀ (A C : Nat) (W9 : World), RO w.heap.size LL A C W9 → A = (if n = 39 then 0 else fgA n s.2.1 8) → C = (if n = 49 then 0 else bgA n s.2.2 8) → rsA (plainS s n) = rfA LL A C) := Lib.hid (fun A C W9 _ hA hC => by
            rw [HE.out]; unfold rsA; dsimp only; rw [HF.out, hA, hC])
          have e39 : n ≠ 39 := HNe.out.1
          have t39 : (n == 39) = false := by rw [beq_eq_false_iff_ne]; exact e39
          have e49 : n ≠ 49 := HNe.out.2
          have t49 : (n == 49) = false := by rw [beq_eq_false_iff_ne]; exact e49
          have HL1 := Lib.hid (LAST.out _ _ _ HO.out (by rw [if_neg e39]) (by rw [if_neg e49]))
          clear e39 e49
          obtain ⟨A, hA⟩ : ∃ A, fgA n s.2.1 8 = A := ⟨_, rfl⟩
          obtain ⟨C, hC⟩ : ∃ C, bgA n s.2.2 8 = C := ⟨_, rfl⟩
          rw [hA, hC] at HO HL1
          go_wp2_with (first
            | (refine load_obj w.heap.size (rfA LL A C) rfl rfl rfl (HO.out.load HLn.out) ?_)
            | (refine store_obj (w.heap.size + 1) (rfA f8 0 0) (rfA LL A C) rfl rfl rfl rfl rfl HZ.out (by rw [rfA_size HLn.out]; exact info_R) (by rw [rfA_size HLn.out]; rfl) (rfA_one _ _ _) ?_; intro w9 h9 hg9; (have H9 := Lib.hid (show RO (w.heap.size + 1) LL A C w9 from h9)); (have HB9 := Lib.hid (below_grown HV.out HV.out.size hg9 (Nat.le_succ _))); clear h9 hg9))
          have hl := H9.out.load HLn.out
          exact bodyPost_ret (v := .agg (rfA LL A C)) (by simp [results, Try.results73, asAddr]; exact hl) rfl ⟨by rw [HL1.out], HB9.out⟩
  by_cases h5 : n < 22
  · have HNe := Lib.hid (show n ≠ 39 ∧ n ≠ 49 from ⟨by omega, by omega⟩)
    have HP1 := Lib.hid True.intro
    have hpn := plN_no h1
    have HF0 := Lib.hid (show blN (preF s.1 n) = blN s.1 from by unfold preF; rw [if_neg h1, if_neg h2, if_neg h3])
    have t1 : (n == 22) = false := by rw [beq_eq_false_iff_ne]; exact h2
    have HPn := Lib.hid hpn
    have t2 : decide (22 < n) = false := decide_eq_false (by omega)
    clear hpn h1 h2 h3 h4 h5
    go_enter Try.func73, Try.ntmps73
    go_upto_region 1 with (fail)
    refine wp_at fun W hW => ?_
    have hW2 : W = (w.alloc (.cells (rfA (blN s.1) s.2.1 s.2.2) tR)).alloc (.cells (rfA f8 0 0) tR) := hW.trans rfl
    rw [← hW2] at HX HY HB
    clear hW hW2
    go_upto_region 9 with (go_at_call 70; refine (place_any _ _).mono ?_; rintro e w1 ⟨rfl, hw1⟩; (rw [hw1]); (rw [HPn.out]); clear hw1 w1)
    refine wp_at fun W2 hW2 => ?_
    obtain ⟨LL, hLL⟩ : ∃ L, blN s.1 = L := ⟨_, rfl⟩
    have HX2 := Lib.hid (show RO w.heap.size LL s.2.1 s.2.2 W2 from by rw [hW2, ← hLL]; exact HX.out)
    have HY2 := Lib.hid (show RO (w.heap.size + 1) f8 0 0 W2 from by rw [hW2]; exact HY.out)
    have HB2 := Lib.hid (show Below w.heap.size w W2 from by rw [hW2]; exact HB.out)
    have HLn := Lib.hid (show LL.length = 8 from by rw [← hLL]; simp [blN_len])
    have HF := Lib.hid (show blN (preF s.1 n) = LL from by rw [← hLL]; exact HF0.out)
    clear hLL hW2
    clear HX HY HB
    have HX := HX2
    have HY := HY2
    have HB := HB2
    clear HX2 HY2 HB2
    go_wp2_with fail
    go_loopg [5] 10 (fun g v5 w' => ∃ i : Nat, v5 = .int .i64 (i : Int) ∧ Hid (i ≤ 8 ∧ 8 < g + i) ∧ Hid (RO w.heap.size LL (fgA n s.2.1 i) (bgA n s.2.2 i) w') ∧ Hid (RO (w.heap.size + 1) f8 0 0 w') ∧ Hid (Below w.heap.size w w'))
    case atStart => exact ⟨0, rfl, Lib.hid ⟨by omega, by omega⟩, Lib.hid (by rw [fgA0, bgA0]; exact HX.out), HY, HB⟩
    case round =>
      obtain ⟨i, rfl, HJ, HO, HZ, HV⟩ := hrel
      clear HX HY HB
      cases gk with
      | zero => have := HJ.out; omega
      | succ k =>
        by_cases hi : i < 8
        · have HJ' := Lib.hid (show i < 8 ∧ 8 < (k + 1) + i from ⟨hi, HJ.out.2⟩)
          have z0 : (i : Int) < 8 := by omega
          have z1 : (0 : Int) ≤ (i : Int) := by omega
          have c8 := HO.out.c8 HLn.out
          have c9 := HO.out.c9 HLn.out
          have g8 := HO.out.fz 8
          have g9 := HO.out.fz 9
          clear HJ hi
          by_cases e30 : n = 30 + (i : Int)
          · have t30 : (n == 30 + (i : Int)) = true := by rw [beq_iff_eq]; exact e30
            have HV2 := Lib.hid (show fgA n s.2.1 (i + 1) = 16777216 + i from by unfold fgA; rw [if_pos (by omega)]; omega)
            have HV3 := Lib.hid (bgA_same (n := n) s.2.2 i (by omega) (by omega))
            clear e30
            go_wp2_with fail
            go_roundg k
            case measure => have := HJ'.out; omega
            case rel => exact ⟨i + 1, by go_num, Lib.hid (by have := HJ'.out; omega), Lib.hid (by rw [HV2.out, HV3.out]; exact HO.out.s8 HLn.out (16777216 + i)), Lib.hid (HZ.out.grown (grown_set _ _ _ _) (by omega)), Lib.hid (HV.out.setCell (p := ⟨w.heap.size, 8, none⟩) (Nat.le_refl _) _)⟩
          have t30 : (n == 30 + (i : Int)) = false := by rw [beq_eq_false_iff_ne]; exact e30
          by_cases e40 : n = 40 + (i : Int)
          · have t40 : (n == 40 + (i : Int)) = true := by rw [beq_iff_eq]; exact e40
            have HV2 := Lib.hid (show bgA n s.2.2 (i + 1) = 16777216 + i from by unfold bgA; rw [if_pos (by omega)]; omega)
            have HV3 := Lib.hid (fgA_same (n := n) s.2.1 i (by omega) (by omega))
            clear e30 e40
            go_wp2_with fail
            go_roundg k
            case measure => have := HJ'.out; omega
            case rel => exact ⟨i + 1, by go_num, Lib.hid (by have := HJ'.out; omega), Lib.hid (by rw [HV2.out, HV3.out]; exact HO.out.s9 HLn.out (16777216 + i)), Lib.hid (HZ.out.grown (grown_set _ _ _ _) (by omega)), Lib.hid (HV.out.setCell (p := ⟨w.heap.size, 9, none⟩) (Nat.le_refl _) _)⟩
          have t40 : (n == 40 + (i : Int)) = false := by rw [beq_eq_false_iff_ne]; exact e40
          by_cases e90 : n = 90 + (i : Int)
          · have t90 : (n == 90 + (i : Int)) = true := by rw [beq_iff_eq]; exact e90
            have HV2 := Lib.hid (show fgA n s.2.1 (i + 1) = 16777216 + i + 8 from by unfold fgA; rw [if_neg (by omega), if_pos (by omega)]; omega)
            have HV3 := Lib.hid (bgA_same (n := n) s.2.2 i (by omega) (by omega))
            clear e30 e40 e90
            go_wp2_with fail
            go_roundg k
            case measure => have := HJ'.out; omega
            case rel => exact ⟨i + 1, by go_num, Lib.hid (by have := HJ'.out; omega), Lib.hid (by rw [HV2.out, HV3.out]; exact HO.out.s8 HLn.out (16777216 + i + 8)), Lib.hid (HZ.out.grown (grown_set _ _ _ _) (by omega)), Lib.hid (HV.out.setCell (p := ⟨w.heap.size, 8, none⟩) (Nat.le_refl _) _)⟩
          have t90 : (n == 90 + (i : Int)) = false := by rw [beq_eq_false_iff_ne]; exact e90
          by_cases e100 : n = 100 + (i : Int)
          · have t100 : (n == 100 + (i : Int)) = true := by rw [beq_iff_eq]; exact e100
            have HV2 := Lib.hid (show bgA n s.2.2 (i + 1) = 16777216 + i + 8 from by unfold bgA; rw [if_neg (by omega), if_pos (by omega)]; omega)
            have HV3 := Lib.hid (fgA_same (n := n) s.2.1 i (by omega) (by omega))
            clear e30 e40 e90 e100
            go_wp2_with fail
            go_roundg k
            case measure => have := HJ'.out; omega
            case rel => exact ⟨i + 1, by go_num, Lib.hid (by have := HJ'.out; omega), Lib.hid (by rw [HV2.out, HV3.out]; exact HO.out.s9 HLn.out (16777216 + i + 8)), Lib.hid (HZ.out.grown (grown_set _ _ _ _) (by omega)), Lib.hid (HV.out.setCell (p := ⟨w.heap.size, 9, none⟩) (Nat.le_refl _) _)⟩
          have t100 : (n == 100 + (i : Int)) = false := by rw [beq_eq_false_iff_ne]; exact e100
          have HV2 := Lib.hid (fgA_same (n := n) s.2.1 i e30 e90)
          have HV3 := Lib.hid (bgA_same (n := n) s.2.2 i e40 e100)
          clear e30 e40 e90 e100
          go_wp2_with fail
          go_roundg k
          case measure => have := HJ'.out; omega
          case rel => exact ⟨i + 1, by go_num, Lib.hid (by have := HJ'.out; omega), Lib.hid (by rw [HV2.out, HV3.out]; exact HO.out), HZ, HV⟩
        · obtain rfl : i = 8 := by have := HJ.out; omega
          have c8 := HO.out.c8 HLn.out
          have c9 := HO.out.c9 HLn.out
          have g8 := HO.out.fz 8
          have g9 := HO.out.fz 9
          clear HJ hi
          have LAST : Hid (∀ (A C : Nat) (W9 : World), RO w.heap.size LL A C W9 → A = (if n = 39 then 0 else fgA n s.2.1 8) → C = (if n = 49 then 0 else bgA n s.2.2 8) → rsA (plainS s n) = rfA LL A C) := Lib.hid (fun A C W9 _ hA hC => by
            rw [HE.out]; unfold rsA; dsimp only; rw [HF.out, hA, hC])
          have e39 : n ≠ 39 := HNe.out.1
          have t39 : (n == 39) = false := by rw [beq_eq_false_iff_ne]; exact e39
          have e49 : n ≠ 49 := HNe.out.2
          have t49 : (n == 49) = false := by rw [beq_eq_false_iff_ne]; exact e49
          have HL1 := Lib.hid (LAST.out _ _ _ HO.out (by rw [if_neg e39]) (by rw [if_neg e49]))
          clear e39 e49
          obtain ⟨A, hA⟩ : ∃ A, fgA n s.2.1 8 = A := ⟨_, rfl⟩
          obtain ⟨C, hC⟩ : ∃ C, bgA n s.2.2 8 = C := ⟨_, rfl⟩
          rw [hA, hC] at HO HL1
          go_wp2_with (first
            | (refine load_obj w.heap.size (rfA LL A C) rfl rfl rfl (HO.out.load HLn.out) ?_)
            | (refine store_obj (w.heap.size + 1) (rfA f8 0 0) (rfA LL A C) rfl rfl rfl rfl rfl HZ.out (by rw [rfA_size HLn.out]; exact info_R) (by rw [rfA_size HLn.out]; rfl) (rfA_one _ _ _) ?_; intro w9 h9 hg9; (have H9 := Lib.hid (show RO (w.heap.size + 1) LL A C w9 from h9)); (have HB9 := Lib.hid (below_grown HV.out HV.out.size hg9 (Nat.le_succ _))); clear h9 hg9))
          have hl := H9.out.load HLn.out
          exact bodyPost_ret (v := .agg (rfA LL A C)) (by simp [results, Try.results73, asAddr]; exact hl) rfl ⟨by rw [HL1.out], HB9.out⟩
  · have HP1 := Lib.hid True.intro
    have hpn := plN_no h1
    have HF0 := Lib.hid (show blN (preF s.1 n) = blN s.1 from by unfold preF; rw [if_neg h1, if_neg h2, if_neg h3])
    have t1 : (n == 22) = false := by rw [beq_eq_false_iff_ne]; exact h2
    have HPn := Lib.hid hpn
    have t2 : decide (22 < n) = true := decide_eq_true (by omega)
    have t3 : decide (n < 30) = false := decide_eq_false (by omega)
    clear hpn h1 h2 h3 h4 h5
    go_enter Try.func73, Try.ntmps73
    go_upto_region 1 with (fail)
    refine wp_at fun W hW => ?_
    have hW2 : W = (w.alloc (.cells (rfA (blN s.1) s.2.1 s.2.2) tR)).alloc (.cells (rfA f8 0 0) tR) := hW.trans rfl
    rw [← hW2] at HX HY HB
    clear hW hW2
    go_upto_region 9 with (go_at_call 70; refine (place_any _ _).mono ?_; rintro e w1 ⟨rfl, hw1⟩; (rw [hw1]); (rw [HPn.out]); clear hw1 w1)
    refine wp_at fun W2 hW2 => ?_
    obtain ⟨LL, hLL⟩ : ∃ L, blN s.1 = L := ⟨_, rfl⟩
    have HX2 := Lib.hid (show RO w.heap.size LL s.2.1 s.2.2 W2 from by rw [hW2, ← hLL]; exact HX.out)
    have HY2 := Lib.hid (show RO (w.heap.size + 1) f8 0 0 W2 from by rw [hW2]; exact HY.out)
    have HB2 := Lib.hid (show Below w.heap.size w W2 from by rw [hW2]; exact HB.out)
    have HLn := Lib.hid (show LL.length = 8 from by rw [← hLL]; simp [blN_len])
    have HF := Lib.hid (show blN (preF s.1 n) = LL from by rw [← hLL]; exact HF0.out)
    clear hLL hW2
    clear HX HY HB
    have HX := HX2
    have HY := HY2
    have HB := HB2
    clear HX2 HY2 HB2
    go_wp2_with fail
    go_loopg [5] 10 (fun g v5 w' => ∃ i : Nat, v5 = .int .i64 (i : Int) ∧ Hid (i ≤ 8 ∧ 8 < g + i) ∧ Hid (RO w.heap.size LL (fgA n s.2.1 i) (bgA n s.2.2 i) w') ∧ Hid (RO (w.heap.size + 1) f8 0 0 w') ∧ Hid (Below w.heap.size w w'))
    case atStart => exact ⟨0, rfl, Lib.hid ⟨by omega, by omega⟩, Lib.hid (by rw [fgA0, bgA0]; exact HX.out), HY, HB⟩
    case round =>
      obtain ⟨i, rfl, HJ, HO, HZ, HV⟩ := hrel
      clear HX HY HB
      cases gk with
      | zero => have := HJ.out; omega
      | succ k =>
        by_cases hi : i < 8
        · have HJ' := Lib.hid (show i < 8 ∧ 8 < (k + 1) + i from ⟨hi, HJ.out.2⟩)
          have z0 : (i : Int) < 8 := by omega
          have z1 : (0 : Int) ≤ (i : Int) := by omega
          have c8 := HO.out.c8 HLn.out
          have c9 := HO.out.c9 HLn.out
          have g8 := HO.out.fz 8
          have g9 := HO.out.fz 9
          clear HJ hi
          by_cases e30 : n = 30 + (i : Int)
          · have t30 : (n == 30 + (i : Int)) = true := by rw [beq_iff_eq]; exact e30
            have HV2 := Lib.hid (show fgA n s.2.1 (i + 1) = 16777216 + i from by unfold fgA; rw [if_pos (by omega)]; omega)
            have HV3 := Lib.hid (bgA_same (n := n) s.2.2 i (by omega) (by omega))
            clear e30
            go_wp2_with fail
            go_roundg k
            case measure => have := HJ'.out; omega
            case rel => exact ⟨i + 1, by go_num, Lib.hid (by have := HJ'.out; omega), Lib.hid (by rw [HV2.out, HV3.out]; exact HO.out.s8 HLn.out (16777216 + i)), Lib.hid (HZ.out.grown (grown_set _ _ _ _) (by omega)), Lib.hid (HV.out.setCell (p := ⟨w.heap.size, 8, none⟩) (Nat.le_refl _) _)⟩
          have t30 : (n == 30 + (i : Int)) = false := by rw [beq_eq_false_iff_ne]; exact e30
          by_cases e40 : n = 40 + (i : Int)
          · have t40 : (n == 40 + (i : Int)) = true := by rw [beq_iff_eq]; exact e40
            have HV2 := Lib.hid (show bgA n s.2.2 (i + 1) = 16777216 + i from by unfold bgA; rw [if_pos (by omega)]; omega)
            have HV3 := Lib.hid (fgA_same (n := n) s.2.1 i (by omega) (by omega))
            clear e30 e40
            go_wp2_with fail
            go_roundg k
            case measure => have := HJ'.out; omega
            case rel => exact ⟨i + 1, by go_num, Lib.hid (by have := HJ'.out; omega), Lib.hid (by rw [HV2.out, HV3.out]; exact HO.out.s9 HLn.out (16777216 + i)), Lib.hid (HZ.out.grown (grown_set _ _ _ _) (by omega)), Lib.hid (HV.out.setCell (p := ⟨w.heap.size, 9, none⟩) (Nat.le_refl _) _)⟩
          have t40 : (n == 40 + (i : Int)) = false := by rw [beq_eq_false_iff_ne]; exact e40
          by_cases e90 : n = 90 + (i : Int)
          · have t90 : (n == 90 + (i : Int)) = true := by rw [beq_iff_eq]; exact e90
            have HV2 := Lib.hid (show fgA n s.2.1 (i + 1) = 16777216 + i + 8 from by unfold fgA; rw [if_neg (by omega), if_pos (by omega)]; omega)
            have HV3 := Lib.hid (bgA_same (n := n) s.2.2 i (by omega) (by omega))
            clear e30 e40 e90
            go_wp2_with fail
            go_roundg k
            case measure => have := HJ'.out; omega
            case rel => exact ⟨i + 1, by go_num, Lib.hid (by have := HJ'.out; omega), Lib.hid (by rw [HV2.out, HV3.out]; exact HO.out.s8 HLn.out (16777216 + i + 8)), Lib.hid (HZ.out.grown (grown_set _ _ _ _) (by omega)), Lib.hid (HV.out.setCell (p := ⟨w.heap.size, 8, none⟩) (Nat.le_refl _) _)⟩
          have t90 : (n == 90 + (i : Int)) = false := by rw [beq_eq_false_iff_ne]; exact e90
          by_cases e100 : n = 100 + (i : Int)
          · have t100 : (n == 100 + (i : Int)) = true := by rw [beq_iff_eq]; exact e100
            have HV2 := Lib.hid (show bgA n s.2.2 (i + 1) = 16777216 + i + 8 from by unfold bgA; rw [if_neg (by omega), if_pos (by omega)]; omega)
            have HV3 := Lib.hid (fgA_same (n := n) s.2.1 i (by omega) (by omega))
            clear e30 e40 e90 e100
            go_wp2_with fail
            go_roundg k
            case measure => have := HJ'.out; omega
            case rel => exact ⟨i + 1, by go_num, Lib.hid (by have := HJ'.out; omega), Lib.hid (by rw [HV2.out, HV3.out]; exact HO.out.s9 HLn.out (16777216 + i + 8)), Lib.hid (HZ.out.grown (grown_set _ _ _ _) (by omega)), Lib.hid (HV.out.setCell (p := ⟨w.heap.size, 9, none⟩) (Nat.le_refl _) _)⟩
          have t100 : (n == 100 + (i : Int)) = false := by rw [beq_eq_false_iff_ne]; exact e100
          have HV2 := Lib.hid (fgA_same (n := n) s.2.1 i e30 e90)
          have HV3 := Lib.hid (bgA_same (n := n) s.2.2 i e40 e100)
          clear e30 e40 e90 e100
          go_wp2_with fail
          go_roundg k
          case measure => have := HJ'.out; omega
          case rel => exact ⟨i + 1, by go_num, Lib.hid (by have := HJ'.out; omega), Lib.hid (by rw [HV2.out, HV3.out]; exact HO.out), HZ, HV⟩
        · obtain rfl : i = 8 := by have := HJ.out; omega
          have c8 := HO.out.c8 HLn.out
          have c9 := HO.out.c9 HLn.out
          have g8 := HO.out.fz 8
          have g9 := HO.out.fz 9
          clear HJ hi
          have LAST : Hid (∀ (A C : Nat) (W9 : World), RO w.heap.size LL A C W9 → A = (if n = 39 then 0 else fgA n s.2.1 8) → C = (if n = 49 then 0 else bgA n s.2.2 8) → rsA (plainS s n) = rfA LL A C) := Lib.hid (fun A C W9 _ hA hC => by
            rw [HE.out]; unfold rsA; dsimp only; rw [HF.out, hA, hC])
          by_cases e39 : n = 39
          · subst e39
            go_wp2_with (first
              | (refine load_obj w.heap.size (rfA LL 0 (bgA 39 s.2.2 8)) rfl rfl rfl ((HO.out.s8 HLn.out 0).load HLn.out) ?_)
              | (refine store_obj (w.heap.size + 1) (rfA f8 0 0) (rfA LL 0 (bgA 39 s.2.2 8)) rfl rfl rfl rfl rfl (HZ.out.grown (grown_set wr w.heap.size 8 (.int .u32 ((0 : Nat) : Int))) (by omega)) (by rw [rfA_size HLn.out]; exact info_R) (by rw [rfA_size HLn.out]; rfl) (rfA_one _ _ _) ?_; intro w9 h9 hg9; (have H9 := Lib.hid (show RO (w.heap.size + 1) LL 0 (bgA 39 s.2.2 8) w9 from h9)); (have HB9 := Lib.hid (below_grown (HV.out.setCell (p := ⟨w.heap.size, 8, none⟩) (Nat.le_refl _) (.int .u32 ((0 : Nat) : Int))) (HV.out.setCell (p := ⟨w.heap.size, 8, none⟩) (Nat.le_refl _) (.int .u32 ((0 : Nat) : Int))).size hg9 (Nat.le_succ _))); clear h9 hg9))
            have hl := H9.out.load HLn.out
            exact bodyPost_ret (v := .agg (rfA LL 0 (bgA 39 s.2.2 8))) (by simp [results, Try.results73, asAddr]; exact hl) rfl ⟨by rw [LAST.out 0 (bgA 39 s.2.2 8) _ (HO.out.s8 HLn.out 0) rfl rfl], HB9.out⟩
          have t39 : (n == 39) = false := by rw [beq_eq_false_iff_ne]; exact e39
          by_cases e49 : n = 49
          · subst e49
            go_wp2_with (first
              | (refine load_obj w.heap.size (rfA LL (fgA 49 s.2.1 8) 0) rfl rfl rfl ((HO.out.s9 HLn.out 0).load HLn.out) ?_)
              | (refine store_obj (w.heap.size + 1) (rfA f8 0 0) (rfA LL (fgA 49 s.2.1 8) 0) rfl rfl rfl rfl rfl (HZ.out.grown (grown_set wr w.heap.size 9 (.int .u32 ((0 : Nat) : Int))) (by omega)) (by rw [rfA_size HLn.out]; exact info_R) (by rw [rfA_size HLn.out]; rfl) (rfA_one _ _ _) ?_; intro w9 h9 hg9; (have H9 := Lib.hid (show RO (w.heap.size + 1) LL (fgA 49 s.2.1 8) 0 w9 from h9)); (have HB9 := Lib.hid (below_grown (HV.out.setCell (p := ⟨w.heap.size, 9, none⟩) (Nat.le_refl _) (.int .u32 ((0 : Nat) : Int))) (HV.out.setCell (p := ⟨w.heap.size, 9, none⟩) (Nat.le_refl _) (.int .u32 ((0 : Nat) : Int))).size hg9 (Nat.le_succ _))); clear h9 hg9))
            have hl := H9.out.load HLn.out
            exact bodyPost_ret (v := .agg (rfA LL (fgA 49 s.2.1 8) 0)) (by simp [results, Try.results73, asAddr]; exact hl) rfl ⟨by rw [LAST.out (fgA 49 s.2.1 8) 0 _ (HO.out.s9 HLn.out 0) rfl rfl], HB9.out⟩
          have t49 : (n == 49) = false := by rw [beq_eq_false_iff_ne]; exact e49
          have HL1 := Lib.hid (LAST.out _ _ _ HO.out (by rw [if_neg e39]) (by rw [if_neg e49]))
          clear e39 e49
          obtain ⟨A, hA⟩ : ∃ A, fgA n s.2.1 8 = A := ⟨_, rfl⟩
          obtain ⟨C, hC⟩ : ∃ C, bgA n s.2.2 8 = C := ⟨_, rfl⟩
          rw [hA, hC] at HO HL1
          go_wp2_with (first
            | (refine load_obj w.heap.size (rfA LL A C) rfl rfl rfl (HO.out.load HLn.out) ?_)
            | (refine store_obj (w.heap.size + 1) (rfA f8 0 0) (rfA LL A C) rfl rfl rfl rfl rfl HZ.out (by rw [rfA_size HLn.out]; exact info_R) (by rw [rfA_size HLn.out]; rfl) (rfA_one _ _ _) ?_; intro w9 h9 hg9; (have H9 := Lib.hid (show RO (w.heap.size + 1) LL A C w9 from h9)); (have HB9 := Lib.hid (below_grown HV.out HV.out.size hg9 (Nat.le_succ _))); clear h9 hg9))
          have hl := H9.out.load HLn.out
          exact bodyPost_ret (v := .agg (rfA LL A C)) (by simp [results, Try.results73, asAddr]; exact hl) rfl ⟨by rw [HL1.out], HB9.out⟩
end Go.Proofs.Ythgdbdhonhkkpaa.St
