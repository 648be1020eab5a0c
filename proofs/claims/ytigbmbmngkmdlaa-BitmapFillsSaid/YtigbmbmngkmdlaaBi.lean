/-
  bitmap, the reference: Write, walked.
-/
import Derived.Test.YtigbmbmngkmdlaaBh
namespace Go.Proofs.Ytigbmbmngkmdlaa.Bm
open Go.RowKit Go.Proofs.Ytigbmbmngkmdlaa.L Go.Proofs.Ytigbmbmngkmdlaa.Bt Go.Proofs.YtigbmbmngkmdlaaW.PrintWords

theorem putM_byts (n x : Nat) : putM n x = (n : Int) :: byts x ((n + 7) / 8) := rfl
set_option maxHeartbeats 1600000 in
set_option maxRecDepth 100000 in
theorem rwrite_any (l : List Bool) (A : Option Addr) (c : Nat) (w : World) (hC : Kd.bool.C w A l.length l) (h64 : l.length ≤ 64) : Calls Try.prog 21 #[.slice A l.length c] w fun e w' => ∃ v0 : Value, e = .returned v0 ∧ (Kd.int .u8).R 5 w' w.heap.size (fun _ => True) v0 (putM l.length (num l)) ∧ Below w.heap.size w w' := by
  obtain ⟨_, ho⟩ := C_openb hC
  have HX := Lib.hid (num_lt l)
  have HBIT := Lib.hid (num_bit l)
  obtain ⟨X, hX⟩ : ∃ X, num l = X := ⟨_, rfl⟩
  rw [hX] at HX HBIT ⊢
  rw [putM_byts]
  have HO := Lib.hid ho
  clear ho hC hX
  obtain ⟨w1, hw1⟩ : ∃ w1, w1 = w.alloc (.cells #[.int .u8 l.length] 5) := ⟨_, rfl⟩
  have HB1 := Lib.hid (show Below w.heap.size w w1 from by rw [hw1]; exact (Below.refl _ _).alloc (Nat.le_refl _) _)
  have HO1 := Lib.hid (show (Kd.int .u8).R 5 w1 w.heap.size (fun _ => True) (.slice (some ⟨w.heap.size, 0, none⟩) 1 1) ((l.length : Int) :: byts X 0) from by
    rw [hw1]; exact R_of_blk (b := w.heap.size) (l := [(l.length : Int)]) (heap_alloc_new w _) (Nat.le_refl _) (by simp [maxLen]))
  go_enter Try.func21, Try.ntmps21
  go_wp2_with fail
  rw [← hw1]
  clear hw1
  go_loopg [3, 4, 5, 6] (l.length + 1) (fun g v3 v4 v5 v6 w' => ∃ m q v wv : Nat, v4 = .int .u8 v ∧ v5 = .int .u8 wv ∧ v6 = .int .i64 m ∧ Hid (m ≤ l.length ∧ l.length < g + m) ∧ Hid (Mid X l.length m q v wv) ∧ Hid ((Kd.int .u8).R 5 w' w.heap.size (fun _ => True) v3 ((l.length : Int) :: byts X q)) ∧ Hid (Below w.heap.size w w'))
  case atStart => exact ⟨0, 0, 0, 1, rfl, rfl, rfl, Lib.hid ⟨by omega, by omega⟩, Lib.hid ⟨fun h => ⟨0, by omega, by omega, by simp [Nat.mod_one], rfl⟩, fun h => by omega⟩, HO1, HB1⟩
  case round =>
    obtain ⟨m, q, v, wv, rfl, rfl, rfl, HJ, HM, HR, HBr⟩ := hrel
    cases gk with
    | zero => have := HJ.out; omega
    | succ g =>
      obtain ⟨hj1, hj2⟩ := HJ.out
      clear HJ
      by_cases hlt : m < l.length
      · obtain ⟨k, hm, hk, hv, hwv⟩ := HM.out.1 hlt
        have hb := HBIT.out m
        rcases HO.out with e | ⟨bk, off, rfl, _, hcells⟩
        · subst e; simp at hlt
        have k0 := pw_cell_below HBr.out (hcells m hlt)
        have hms := mid_step (X := X) hm _ hb
        rw [← hv, ← hwv] at hms
        have h128 : wv ≤ 128 := by rw [hwv]; exact Nat.le_trans (Nat.pow_le_pow_right (by decide) (show k ≤ 7 by omega)) (by decide)
        have hvw : v < wv := by rw [hv, hwv]; exact Nat.mod_lt _ (Nat.two_pow_pos _)
        have HMS := Lib.hid hms
        have HK := Lib.hid (show m = 8 * q + k ∧ k < 8 from ⟨hm, hk⟩)
        have HWV := Lib.hid hwv
        have hm8 : ((m : Int) % 8 == 7) = decide (k = 7) := by
          by_cases h : k = 7
          · subst h; simp; omega
          · simp [h]; omega
        have hml : ((m : Int) == (l.length : Int) - 1) = decide (m + 1 = l.length) := by
          by_cases h : m + 1 = l.length
          · simp [h]; omega
          · simp [h]; omega
        clear hm hk hv hwv hb hcells HM hms
        generalize l.getD m false = bt at k0 HMS
        have hcase : (k = 7) ∨ (k ≠ 7 ∧ m + 1 = l.length) ∨ (k ≠ 7 ∧ m + 1 ≠ l.length) := by omega
        rcases hcase with hk7 | ⟨hk7, hl⟩ | ⟨hk7, hl⟩
        case inr.inr =>
          have h64w : wv ≤ 64 := by
            rw [HWV.out]
            have := HK.out.2
            exact Nat.le_trans (Nat.pow_le_pow_right (by decide) (show k ≤ 6 by omega)) (by decide)
          rw [decide_eq_false hk7] at hm8
          rw [decide_eq_false hl] at hml
          have hnext : ∀ v', X / 2 ^ (8 * q) % 2 ^ (k + 1) = v' → Mid X l.length (m + 1) q v' (2 * wv) := fun v' hv' =>
            ⟨fun _ => ⟨k + 1, by have := HK.out; omega, by have := HK.out; omega, hv'.symm, by rw [HWV.out, Nat.pow_succ, Nat.mul_comm]⟩, fun h => absurd h hl⟩
          have HN := Lib.hid hnext
          clear hnext
          cases bt
          · go_wp2_with fail
            go_roundg g
            case measure => omega
            case rel => exact ⟨m + 1, q, v, 2 * wv, by go_num, by go_num, by go_num, Lib.hid ⟨by omega, by omega⟩, Lib.hid (HN.out _ (by rw [HMS.out]; simp)), HR, HBr⟩
          · go_wp2_with fail
            go_roundg g
            case measure => omega
            case rel => exact ⟨m + 1, q, v + wv, 2 * wv, by go_num, by go_num, by go_num, Lib.hid ⟨by omega, by omega⟩, Lib.hid (HN.out _ (by rw [HMS.out]; simp)), HR, HBr⟩
        all_goals
          have hby : X / 2 ^ (8 * q) % 256 = v + (if bt = true then wv else 0) := by
            rw [← HMS.out]
            first
              | (have h7 : k = 7 := hk7; subst h7; rfl)
              | exact top_byte HX.out (by have := HK.out; omega) (by have := HK.out; omega)
          have HBY := Lib.hid hby
          have HN := Lib.hid (show Mid X l.length (m + 1) (q + 1) 0 1 from ⟨fun h => ⟨0, by have := HK.out; omega, by omega, by simp [Nat.mod_one], rfl⟩, fun h => by have := HK.out; omega⟩)
          clear hby
          first
            | rw [decide_eq_true (show k = 7 from hk7)] at hm8
            | rw [decide_eq_false hk7] at hm8
          first
            | rw [decide_eq_true (show m + 1 = l.length from hl)] at hml
            | skip
          cases bt
          · go_wp2_with (at_builtin; refine app1 (w0 := w) .u8 w.heap.size (.tmp 36) (.tmp 38) 25 5 1 rfl rfl Try.underlying25 info_u8 (by decide) u3 ((l.length : Int) :: byts X q) _ rfl rfl HR.out HBr.out HBr.out.size (by simp [byts_len]; have := HK.out; omega) ?_; intro v2 w3 ho2 hb2 _; (have HB3 := Lib.hid hb2); (have HR3 := Lib.hid ho2); clear ho2 hb2)
            go_roundg g
            case measure => omega
            case rel => exact ⟨m + 1, q + 1, 0, 1, rfl, rfl, by go_num, Lib.hid ⟨by omega, by omega⟩, HN, Lib.hid (by rw [byts_succ, HBY.out]; simpa using HR3.out), HB3⟩
          · go_wp2_with (at_builtin; refine app1 (w0 := w) .u8 w.heap.size (.tmp 36) (.tmp 38) 25 5 1 rfl rfl Try.underlying25 info_u8 (by decide) u3 ((l.length : Int) :: byts X q) _ rfl rfl HR.out HBr.out HBr.out.size (by simp [byts_len]; have := HK.out; omega) ?_; intro v2 w3 ho2 hb2 _; (have HB3 := Lib.hid hb2); (have HR3 := Lib.hid ho2); clear ho2 hb2)
            go_roundg g
            case measure => omega
            case rel => exact ⟨m + 1, q + 1, 0, 1, rfl, rfl, by go_num, Lib.hid ⟨by omega, by omega⟩, HN, Lib.hid (by rw [byts_succ, HBY.out]; simpa using HR3.out), HB3⟩
      · have hmc : m = l.length := by omega
        subst hmc
        have hq := HM.out.2 rfl
        go_wp2
        go_ret
        exact ⟨_, rfl, by rw [← hq]; exact HR.out, HBr.out⟩
end Go.Proofs.Ytigbmbmngkmdlaa.Bm
