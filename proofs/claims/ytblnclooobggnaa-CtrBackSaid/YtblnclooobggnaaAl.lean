/-
  aes: the document's Mul and Box.
-/
import Derived.Test.YtblnclooobggnaaAh
namespace Go.Proofs.Ytblnclooobggnaa.A
open Go.RowKit Go.Proofs.Ytblnclooobggnaa.L Go.Proofs.Ytblnclooobggnaa.N Go.Proofs.YtblnclooobggnaaW.PrintWords

theorem xor_i64 (a b : Nat) (ha : a < 1024) (hb : b < 1024) : bits .xor .i64 (a : Int) (b : Int) = ((a ^^^ b : Nat) : Int) :=
  xor_nat .i64 10 (by decide) (fun n h0 h1 => IntWalk.i64_in _ (by have : (2 : Int) ^ 10 = 1024 := by decide
                                                                   omega)) a b ha hb
theorem xor10 {a b : Nat} (ha : a < 1024) (hb : b < 1024) : a ^^^ b < 1024 := Nat.xor_lt_two_pow (n := 10) ha hb
theorem mul2_lt : ∀ a, a < 256 → mul2 a < 256 := by decide +kernel
theorem mulF_succ (k a b p : Nat) : mulF (k + 1) a b p = mulF k (mul2 a) (b / 2) (if b % 2 = 1 then p ^^^ a else p) := by rw [mulF]
set_option maxRecDepth 100000 in
set_option maxHeartbeats 3200000 in
theorem mul_any (a b : Nat) (w : World) (ha : a < 256) (hb : b < 256) : Calls Try.prog 36 #[.int .i64 (a : Int), .int .i64 (b : Int)] w fun e w' => e = .returned (.int .i64 (rmul a b : Nat)) ∧ w' = w := by
  have HA := Lib.hid ha
  have HB := Lib.hid hb
  obtain ⟨R, hR⟩ : ∃ R, rmul a b = R := ⟨_, rfl⟩
  rw [hR]
  have HR := Lib.hid hR
  clear ha hb hR
  go_enter Try.func36, Try.ntmps36
  go_wp2_with fail
  go_loopg [0, 1, 5, 6] 10 (fun g v0 v1 v5 v6 w' => ∃ a1 b1 p1 i : Nat, v0 = .int .i64 (a1 : Int) ∧ v1 = .int .i64 (b1 : Int) ∧ v5 = .int .i64 (p1 : Int) ∧ v6 = .int .i64 (i : Int) ∧ Hid (i ≤ 8 ∧ 8 < g + i) ∧ Hid (a1 < 256 ∧ b1 < 256 ∧ p1 < 256) ∧ Hid (mulF (8 - i) a1 b1 p1 = R) ∧ Hid (w' = w))
  case atStart => exact ⟨a, b, 0, 0, rfl, rfl, rfl, rfl, Lib.hid ⟨by omega, by omega⟩, Lib.hid ⟨HA.out, HB.out, by omega⟩, HR, Lib.hid rfl⟩
  case round =>
    obtain ⟨a1, b1, p1, i, rfl, rfl, rfl, rfl, HJ, HL, HM, HW⟩ := hrel
    cases gk with
    | zero => have := HJ.out; omega
    | succ k =>
      by_cases hi : i < 8
      · have HJ' := Lib.hid (show i < 8 ∧ 8 < (k + 1) + i from ⟨hi, HJ.out.2⟩)
        have HS := Lib.hid (mulF_succ (8 - (i + 1)) a1 b1 p1)
        rw [show 8 - (i + 1) + 1 = 8 - i from by omega, HM.out] at HS
        have HM2 := Lib.hid (mul2_lt a1 HL.out.1)
        have z0 : (i : Int) < 8 := by omega
        have z1 : (0 : Int) ≤ (i : Int) := by omega
        have z2 : (a1 : Int) < 256 := by have := HL.out; omega
        have z3 : (b1 : Int) < 256 := by have := HL.out; omega
        have z4 : (0 : Int) ≤ (b1 : Int) := by omega
        have z5 : (0 : Int) ≤ (a1 : Int) := by omega
        have d1 : (b1 : Int).tdiv 2 = ((b1 / 2 : Nat) : Int) := by rw [Int.tdiv_eq_ediv_of_nonneg (by omega)]; omega
        have d2 : (b1 : Int) / 2 = ((b1 / 2 : Nat) : Int) := by omega
        obtain ⟨b2, hb2⟩ : ∃ y, b1 / 2 = y := ⟨_, rfl⟩
        rw [hb2] at d1 d2 HS
        have Hb2 := Lib.hid (show b2 < 256 from by have := HL.out; omega)
        have x1 := xor_i64 p1 a1 (by have := HL.out; omega) (by have := HL.out; omega)
        have Hp2 := Lib.hid (xor8 HL.out.2.2 HL.out.1)
        have x2 : bits .xor .i64 ((2 * a1 : Nat) : Int) 283 = ((2 * a1 ^^^ 283 : Nat) : Int) := xor_i64 (2 * a1) 283 (by have := HL.out; omega) (by omega)
        have e2 : 2 * (a1 : Int) = ((2 * a1 : Nat) : Int) := by omega
        obtain ⟨a2, ha2⟩ : ∃ y, 2 * a1 = y := ⟨_, rfl⟩
        have Ha2 := Lib.hid ha2
        rw [ha2] at x2 e2
        by_cases ho : b1 % 2 = 1
        · rw [if_pos ho] at HS
          have m1 : (b1 : Int) % 2 = 1 := by omega
          have m2 : (b1 : Int).tmod 2 = 1 := by rw [Int.tmod_eq_emod_of_nonneg (by omega)]; omega
          by_cases hg : 255 < a2
          · have g1 : (255 : Int) < (a2 : Int) := by omega
            have HG := Lib.hid (show mul2 a1 = a2 ^^^ 283 from by rw [mul2, ha2, if_pos hg])
            clear ha2 hb2 ho hg hi HJ
            go_wp2_with fail
            go_roundg k
            case measure => have := HJ'.out; omega
            case rel => exact ⟨_, _, _, i + 1, rfl, rfl, rfl, by go_num, Lib.hid (by have := HJ'.out; omega), Lib.hid ⟨by rw [← HG.out]; exact HM2.out, Hb2.out, Hp2.out⟩, Lib.hid (by rw [← HG.out]; exact HS.out.symm), HW⟩
          · have g1 : ¬ (255 : Int) < (a2 : Int) := by omega
            have HG := Lib.hid (show mul2 a1 = a2 from by rw [mul2, ha2, if_neg hg])
            clear ha2 hb2 ho hg hi HJ
            go_wp2_with fail
            go_roundg k
            case measure => have := HJ'.out; omega
            case rel => exact ⟨_, _, _, i + 1, rfl, rfl, rfl, by go_num, Lib.hid (by have := HJ'.out; omega), Lib.hid ⟨by rw [← HG.out]; exact HM2.out, Hb2.out, Hp2.out⟩, Lib.hid (by rw [← HG.out]; exact HS.out.symm), HW⟩
        · rw [if_neg ho] at HS
          have m1 : (b1 : Int) % 2 = 0 := by omega
          have m2 : (b1 : Int).tmod 2 = 0 := by rw [Int.tmod_eq_emod_of_nonneg (by omega)]; omega
          by_cases hg : 255 < a2
          · have g1 : (255 : Int) < (a2 : Int) := by omega
            have HG := Lib.hid (show mul2 a1 = a2 ^^^ 283 from by rw [mul2, ha2, if_pos hg])
            clear ha2 hb2 ho hg hi HJ
            go_wp2_with fail
            go_roundg k
            case measure => have := HJ'.out; omega
            case rel => exact ⟨_, _, _, i + 1, rfl, rfl, rfl, by go_num, Lib.hid (by have := HJ'.out; omega), Lib.hid ⟨by rw [← HG.out]; exact HM2.out, Hb2.out, HL.out.2.2⟩, Lib.hid (by rw [← HG.out]; exact HS.out.symm), HW⟩
          · have g1 : ¬ (255 : Int) < (a2 : Int) := by omega
            have HG := Lib.hid (show mul2 a1 = a2 from by rw [mul2, ha2, if_neg hg])
            clear ha2 hb2 ho hg hi HJ
            go_wp2_with fail
            go_roundg k
            case measure => have := HJ'.out; omega
            case rel => exact ⟨_, _, _, i + 1, rfl, rfl, rfl, by go_num, Lib.hid (by have := HJ'.out; omega), Lib.hid ⟨by rw [← HG.out]; exact HM2.out, Hb2.out, HL.out.2.2⟩, Lib.hid (by rw [← HG.out]; exact HS.out.symm), HW⟩
      · obtain rfl : i = 8 := by have := HJ.out; omega
        clear hi HJ
        have HP := Lib.hid (show p1 = R from by have := HM.out; rwa [show 8 - 8 = 0 from rfl, mulF] at this)
        go_wp2_with fail
        go_ret
        exact ⟨by have e := HP.out; subst e; rfl, HW.out⟩
theorem outF_succ (k v o : Nat) : outF (k + 1) v o = outF k (2 * v % 256 + v / 128) (o ^^^ (2 * v % 256 + v / 128)) := by rw [outF]
theorem invF_succ (x j : Nat) : invF x (j + 1) 0 = if rmul x (j + 1) = 1 then j + 1 else invF x j 0 := by rw [invF]
theorem invF_le (x : Nat) : ∀ j, invF x j 0 ≤ j
  | 0 => by rw [invF]; exact Nat.le_refl _
  | j + 1 => by
    rw [invF_succ]
    split
    · exact Nat.le_refl _
    · exact Nat.le_succ_of_le (invF_le x j)
def rv (x : Nat) : Nat := if x = 0 then 0 else invF x 255 0
theorem rbox_get {x : Nat} (h : x < 256) : rbox x = boxT.getD x 0 := by
  rw [← rbox_all, List.getD_eq_getElem?_getD, List.getElem?_map, List.getElem?_range h]
  rfl
set_option maxRecDepth 100000 in
set_option maxHeartbeats 3200000 in
theorem refbox_any (x : Nat) (w : World) (hx : x < 256) : Calls Try.prog 15 #[.int .i64 (x : Int)] w fun e w' => e = .returned (.int .i64 (boxT.getD x 0 : Nat)) ∧ w' = w := by
  obtain ⟨R, hR⟩ : ∃ R, boxT.getD x 0 = R := ⟨_, rfl⟩
  have HR := Lib.hid (show outF 4 (rv x) (rv x ^^^ 99) = R from by rw [← hR, ← rbox_get hx]; rfl)
  have HX := Lib.hid hx
  rw [hR]
  clear hR hx
  by_cases h0 : x = 0
  · subst h0
    go_enter Try.func15, Try.ntmps15
    go_wp2_with fail
    go_loopg [3, 4] 260 (fun g v3 v4 w' => v3 = .int .i64 0 ∧ v4 = .int .i64 1 ∧ Hid (0 < g) ∧ Hid (w' = w))
    case atStart => exact ⟨rfl, rfl, Lib.hid (by omega), Lib.hid rfl⟩
    case round =>
      obtain ⟨rfl, rfl, HJ, HW⟩ := hrel
      obtain ⟨v, hv⟩ : ∃ v : Nat, v = 0 := ⟨0, rfl⟩
      have HVe := Lib.hid (show v = rv 0 from by rw [hv]; rfl)
      have HV := Lib.hid (show v < 256 from by omega)
      cases gk with
      | zero => have := HJ.out; omega
      | succ g1 =>
        have hc : (0 : Int) = (v : Int) := by omega
        have x9 : bits .xor .i64 0 99 = ((v ^^^ 99 : Nat) : Int) := by rw [hv]; kernel_rfl
        have HO := Lib.hid (show outF 4 v (v ^^^ 99) = R from by rw [HVe.out]; exact HR.out)
        have Ho := Lib.hid (show v ^^^ 99 < 256 from xor8 HV.out (by decide))
        have Hv := Lib.hid hv
        generalize v ^^^ 99 = o at *
        clear HR HVe hv hc
        go_wp2_with fail
        clear x9
        go_loopg [3, 5, 6] 6 (fun g v3 v5 v6 w' => ∃ u p i : Nat, v3 = .int .i64 (u : Int) ∧ v5 = .int .i64 (p : Int) ∧ v6 = .int .i64 (i : Int) ∧ Hid (i ≤ 4 ∧ 4 < g + i) ∧ Hid (u < 256 ∧ p < 256) ∧ Hid (outF (4 - i) u p = R) ∧ Hid (w' = w))
        case atStart => exact ⟨v, o, 0, by rw [Hv.out]; rfl, rfl, rfl, Lib.hid ⟨by omega, by omega⟩, Lib.hid ⟨HV.out, Ho.out⟩, HO, HW⟩
        case round =>
          obtain ⟨u, p, i, rfl, rfl, rfl, HJ, HL, HM, HW⟩ := hrel
          cases gk with
          | zero => have := HJ.out; omega
          | succ k =>
            by_cases hi : i < 4
            · have HJ' := Lib.hid (show i < 4 ∧ 4 < (k + 1) + i from ⟨hi, HJ.out.2⟩)
              have HS := Lib.hid (outF_succ (4 - (i + 1)) u p)
              rw [show 4 - (i + 1) + 1 = 4 - i from by omega, HM.out] at HS
              have z0 : (i : Int) < 4 := by omega
              have z1 : (0 : Int) ≤ (i : Int) := by omega
              have z2 : (u : Int) < 256 := by have := HL.out; omega
              have z3 : (0 : Int) ≤ (u : Int) := by omega
              obtain ⟨y, hy⟩ : ∃ y, 2 * u % 256 + u / 128 = y := ⟨_, rfl⟩
              rw [hy] at HS
              have Hy := Lib.hid (show y < 256 from by have := HL.out; omega)
              have e1 : 2 * (u : Int) % 256 + (u : Int) / 128 = (y : Int) := by omega
              have e2 : (2 * (u : Int)).tmod 256 + (u : Int).tdiv 128 = (y : Int) := by rw [Int.tmod_eq_emod_of_nonneg (by omega), Int.tdiv_eq_ediv_of_nonneg (by omega)]; omega
              have x1 := xor_i64 p y (by have := HL.out; omega) (by have := Hy.out; omega)
              have Hx := Lib.hid (show p ^^^ y < 256 from xor8 HL.out.2 Hy.out)
              clear hy hi HJ
              go_wp2_with fail
              go_roundg k
              case measure => have := HJ'.out; omega
              case rel => exact ⟨y, p ^^^ y, i + 1, rfl, rfl, by go_num, Lib.hid (by have := HJ'.out; omega), Lib.hid ⟨Hy.out, Hx.out⟩, Lib.hid HS.out.symm, HW⟩
            · obtain rfl : i = 4 := by have := HJ.out; omega
              clear hi HJ
              have HP := Lib.hid (show p = R from by have := HM.out; rwa [show 4 - 4 = 0 from rfl, outF] at this)
              go_wp2_with fail
              go_ret
              exact ⟨by have e := HP.out; subst e; rfl, HW.out⟩
  · have n0 : ¬ (x : Int) = 0 := by omega
    have HZ := Lib.hid (show rv x = invF x 255 0 from if_neg h0)
    clear h0
    go_enter Try.func15, Try.ntmps15
    go_wp2_with fail
    go_loopg [3, 4] 260 (fun g v3 v4 w' => ∃ j : Nat, v3 = .int .i64 (invF x j 0 : Nat) ∧ v4 = .int .i64 ((j : Int) + 1) ∧ Hid (j ≤ 255 ∧ 255 < g + j) ∧ Hid (w' = w))
    case atStart => exact ⟨0, rfl, rfl, Lib.hid ⟨by omega, by omega⟩, Lib.hid rfl⟩
    case round =>
      obtain ⟨j, rfl, rfl, HJ, HW⟩ := hrel
      cases gk with
      | zero => have := HJ.out; omega
      | succ g1 =>
        by_cases hj : j < 255
        · have HJ' := Lib.hid (show j < 255 ∧ 255 < (g1 + 1) + j from ⟨hj, HJ.out.2⟩)
          have HS := Lib.hid (invF_succ x j)
          have HMu := Lib.hid (fun W => mul_any x (j + 1) W HX.out (by omega))
          have z0 : (j : Int) + 1 < 256 := by omega
          have z1 : (0 : Int) ≤ (j : Int) := by omega
          clear hj HJ
          by_cases hm : rmul x (j + 1) = 1
          · rw [if_pos hm] at HS
            go_wp2_with (go_at_call 36; refine (HMu.out _).mono ?_; rintro e w1 ⟨rfl, hw1⟩; (rw [hw1, hm]); clear hw1 w1)
            go_roundg g1
            case measure => have := HJ'.out; omega
            case rel => exact ⟨j + 1, by rw [HS.out]; go_num, by go_num, Lib.hid (by have := HJ'.out; omega), HW⟩
          · rw [if_neg hm] at HS
            obtain ⟨m, hmm⟩ : ∃ m, rmul x (j + 1) = m := ⟨_, rfl⟩
            rw [hmm] at hm
            have hm' : ¬ (m : Int) = 1 := by omega
            have Hmm := Lib.hid hmm
            clear hmm
            go_wp2_with (go_at_call 36; refine (HMu.out _).mono ?_; rintro e w1 ⟨rfl, hw1⟩; (rw [hw1, Hmm.out]); clear hw1 w1)
            go_roundg g1
            case measure => have := HJ'.out; omega
            case rel => exact ⟨j + 1, by rw [HS.out], by go_num, Lib.hid (by have := HJ'.out; omega), HW⟩
        · obtain rfl : j = 255 := by have := HJ.out; omega
          clear hj HJ
          have HVe := HZ
          have HV := Lib.hid (show invF x 255 0 < 256 from Nat.lt_succ_of_le (invF_le x 255))
          obtain ⟨v, hv⟩ : ∃ v, invF x 255 0 = v := ⟨_, rfl⟩
          rw [hv] at HVe HV
          rw [hv]
          have HVe := Lib.hid HVe.out.symm
          clear hv HZ
          have x9 : bits .xor .i64 (v : Int) 99 = ((v ^^^ 99 : Nat) : Int) := xor_i64 v 99 (by have := HV.out; omega) (by omega)
          have HO := Lib.hid (show outF 4 v (v ^^^ 99) = R from by rw [HVe.out]; exact HR.out)
          have Ho := Lib.hid (show v ^^^ 99 < 256 from xor8 HV.out (by decide))
          generalize v ^^^ 99 = o at *
          clear HR HVe
          go_wp2_with fail
          clear x9
          go_loopg [3, 5, 6] 6 (fun g v3 v5 v6 w' => ∃ u p i : Nat, v3 = .int .i64 (u : Int) ∧ v5 = .int .i64 (p : Int) ∧ v6 = .int .i64 (i : Int) ∧ Hid (i ≤ 4 ∧ 4 < g + i) ∧ Hid (u < 256 ∧ p < 256) ∧ Hid (outF (4 - i) u p = R) ∧ Hid (w' = w))
          case atStart => exact ⟨v, o, 0, rfl, rfl, rfl, Lib.hid ⟨by omega, by omega⟩, Lib.hid ⟨HV.out, Ho.out⟩, HO, HW⟩
          case round =>
            obtain ⟨u, p, i, rfl, rfl, rfl, HJ, HL, HM, HW⟩ := hrel
            cases gk with
            | zero => have := HJ.out; omega
            | succ k =>
              by_cases hi : i < 4
              · have HJ' := Lib.hid (show i < 4 ∧ 4 < (k + 1) + i from ⟨hi, HJ.out.2⟩)
                have HS := Lib.hid (outF_succ (4 - (i + 1)) u p)
                rw [show 4 - (i + 1) + 1 = 4 - i from by omega, HM.out] at HS
                have z0 : (i : Int) < 4 := by omega
                have z1 : (0 : Int) ≤ (i : Int) := by omega
                have z2 : (u : Int) < 256 := by have := HL.out; omega
                have z3 : (0 : Int) ≤ (u : Int) := by omega
                obtain ⟨y, hy⟩ : ∃ y, 2 * u % 256 + u / 128 = y := ⟨_, rfl⟩
                rw [hy] at HS
                have Hy := Lib.hid (show y < 256 from by have := HL.out; omega)
                have e1 : 2 * (u : Int) % 256 + (u : Int) / 128 = (y : Int) := by omega
                have e2 : (2 * (u : Int)).tmod 256 + (u : Int).tdiv 128 = (y : Int) := by rw [Int.tmod_eq_emod_of_nonneg (by omega), Int.tdiv_eq_ediv_of_nonneg (by omega)]; omega
                have x1 := xor_i64 p y (by have := HL.out; omega) (by have := Hy.out; omega)
                have Hx := Lib.hid (show p ^^^ y < 256 from xor8 HL.out.2 Hy.out)
                clear hy hi HJ
                go_wp2_with fail
                go_roundg k
                case measure => have := HJ'.out; omega
                case rel => exact ⟨y, p ^^^ y, i + 1, rfl, rfl, by go_num, Lib.hid (by have := HJ'.out; omega), Lib.hid ⟨Hy.out, Hx.out⟩, Lib.hid HS.out.symm, HW⟩
              · obtain rfl : i = 4 := by have := HJ.out; omega
                clear hi HJ
                have HP := Lib.hid (show p = R from by have := HM.out; rwa [show 4 - 4 = 0 from rfl, outF] at this)
                go_wp2_with fail
                go_ret
                exact ⟨by have e := HP.out; subst e; rfl, HW.out⟩
end Go.Proofs.Ytblnclooobggnaa.A
