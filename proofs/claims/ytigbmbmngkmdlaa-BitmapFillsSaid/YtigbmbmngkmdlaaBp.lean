/-
  bitmap: OnesCount64, Count; the reference's Count.
-/
import Derived.Test.YtigbmbmngkmdlaaBo
namespace Go.Proofs.Ytigbmbmngkmdlaa.Bm
open Go.RowKit Go.Proofs.Ytigbmbmngkmdlaa.L Go.Proofs.Ytigbmbmngkmdlaa.Bt Go.Proofs.YtigbmbmngkmdlaaW.PrintWords

theorem s1_lt (x : Nat) : s1 8 x < 18446744073709551616 ∧ s2 8 (s1 8 x) ≤ 7378697629483820646 := by
  have a : ∀ y, y &&& rep 85 8 ≤ 6148914691236517205 := fun y => Nat.le_trans Nat.and_le_right (by decide)
  have b : ∀ y, y &&& rep 51 8 ≤ 3689348814741910323 := fun y => Nat.le_trans Nat.and_le_right (by decide)
  unfold s1 s2
  have := a x; have := a (x / 2); have := b (s1 8 x); have := b (s1 8 x / 4)
  unfold s1 at *
  omega
set_option maxHeartbeats 800000 in
set_option maxRecDepth 100000 in
theorem ones_any (x : Nat) (w : World) (hx : x < 2 ^ 64) : Calls Try.prog 64 #[.int .u64 x] w fun e w' => e = .returned (.int .i64 (pcB 64 x)) ∧ w' = w := by
  go_enter Try.func64, Try.ntmps64
  go_wp2
  go_ret
  have e1 : bits .and .u64 ((x : Int) / 2) 6148914691236517205 = ((x / 2 &&& rep 85 8 : Nat) : Int) := and_u64 (x / 2) 6148914691236517205 (by omega) (by decide)
  have e2 : bits .and .u64 (x : Int) 6148914691236517205 = ((x &&& rep 85 8 : Nat) : Int) := and_u64 x 6148914691236517205 hx (by decide)
  obtain ⟨l1, l2⟩ := s1_lt x
  have f1 : IntKind.u64.wrap (((x / 2 &&& rep 85 8 : Nat) : Int) + ((x &&& rep 85 8 : Nat) : Int)) = ((s1 8 x : Nat) : Int) := by rw [← Int.natCast_add]; exact wraps_u64 _ (by omega) (cast_lt l1)
  obtain ⟨st, _⟩ := stages 8 x (by simpa using hx)
  have e3 : bits .and .u64 (((s1 8 x : Nat) : Int) / 4) 3689348814741910323 = ((s1 8 x / 4 &&& rep 51 8 : Nat) : Int) := and_u64 (s1 8 x / 4) 3689348814741910323 (by omega) (by decide)
  have e4 : bits .and .u64 ((s1 8 x : Nat) : Int) 3689348814741910323 = ((s1 8 x &&& rep 51 8 : Nat) : Int) := and_u64 (s1 8 x) 3689348814741910323 l1 (by decide)
  have f2 : IntKind.u64.wrap (((s1 8 x / 4 &&& rep 51 8 : Nat) : Int) + ((s1 8 x &&& rep 51 8 : Nat) : Int)) = ((s2 8 (s1 8 x) : Nat) : Int) := by rw [← Int.natCast_add]; exact wraps_u64 _ (by omega) (cast_lt (show s2 8 (s1 8 x) < 2 ^ 64 by omega))
  have f3 : IntKind.u64.wrap (((s2 8 (s1 8 x) : Nat) : Int) / 16 + ((s2 8 (s1 8 x) : Nat) : Int)) = ((s2 8 (s1 8 x) + s2 8 (s1 8 x) / 16 : Nat) : Int) := by rw [wraps_u64 _ (by omega) (by omega)]; omega
  have e5 : bits .and .u64 ((s2 8 (s1 8 x) + s2 8 (s1 8 x) / 16 : Nat) : Int) 1085102592571150095 = ((tab 8 x : Nat) : Int) := by rw [← st]; exact and_u64 (s2 8 (s1 8 x) + s2 8 (s1 8 x) / 16) 1085102592571150095 (by omega) (by decide)
  obtain ⟨c0, c1, c2, c3, c4, c5, c6, c7, b0, b1, b2, b3, b4, b5, b6, b7, ht, hp⟩ := tab_sum x
  obtain ⟨m3, m1, m2, hm⟩ := fold_sum c0 c1 c2 c3 c4 c5 c6 c7 b0 b1 b2 b3 b4 b5 b6 b7 _ _ _ _ ht rfl rfl rfl
  rw [← hp] at hm
  rw [e1, e2, f1, e3, e4, f2, f3, e5]
  generalize tab 8 x = t at m1 m2 m3 hm
  have g1 : IntKind.u64.wrap ((t : Int) + (t : Int) / 256) = ((t + t / 256 : Nat) : Int) := by rw [wraps_u64 _ (by omega) (by omega)]; omega
  rw [g1]
  generalize t + t / 256 = t1 at m1 m2 m3 hm
  have g2 : IntKind.u64.wrap ((t1 : Int) + (t1 : Int) / 65536) = ((t1 + t1 / 65536 : Nat) : Int) := by rw [wraps_u64 _ (by omega) (by omega)]; omega
  rw [g2]
  generalize t1 + t1 / 65536 = t2 at m2 m3 hm
  have g3 : IntKind.u64.wrap ((t2 : Int) + (t2 : Int) / 4294967296) = ((t2 + t2 / 4294967296 : Nat) : Int) := by rw [wraps_u64 _ (by omega) (by omega)]; omega
  rw [g3]
  generalize t2 + t2 / 4294967296 = t3 at m3 hm
  have g4 : wrap64 (t3 : Int) = t3 := by unfold wrap64; omega
  have g5 : bits .and .i64 (t3 : Int) 127 = ((t3 % 128 : Nat) : Int) := by
    have h := (bits_nat .i64 63 (by decide) (fun n h0 h1 => by rw [IntKind.wrap_i64]; omega) t3 127 (by omega) (by decide)).1
    rw [Nat.and_two_pow_sub_one_eq_mod t3 7] at h
    exact h
  rw [g4, g5, hm]
  exact ⟨rfl, rfl⟩
set_option maxHeartbeats 800000 in
set_option maxRecDepth 100000 in
theorem count_any (n : Int) (x : Nat) (w : World) (hx : x < 2 ^ 64) : Calls Try.prog 46 #[.agg #[.int .i64 n, .int .u64 x]] w fun e w' => e = .returned (.int .i64 (if rgt n x then pcB 64 x else 0)) ∧ Below w.heap.size w w' := by
  have HR := Lib.hid (fun w => right_any n x w hx)
  have HO := Lib.hid (fun w => ones_any x w hx)
  obtain ⟨wb, hwb, ha, hbel⟩ := mk w n x
  have HB := Lib.hid hbel
  have HW := Lib.hid ha
  have k0 := ha.c0
  have k1 := ha.c1
  clear ha hbel
  rw [hwb] at k0 k1
  cases h1 : rgt n x
  all_goals
    rw [h1] at HR
    go_enter Try.func46, Try.ntmps46
    go_wp2_with fail
    rw [← hwb]
    clear hwb k0 k1
    refine (HR.out _).mono ?_
    rintro e w1 ⟨rfl, hb1⟩
    have HB1 := Lib.hid (stay1 HB.out hb1)
    have q0 := (HW.out.below hb1).c0
    have q1 := (HW.out.below hb1).c1
    clear hb1
  · go_wp2
    go_ret
    exact ⟨rfl, HB1.out⟩
  · go_wp2_with (go_at_call 64; refine (HO.out _).mono ?_; rintro e w2 ⟨rfl, rfl⟩)
    go_ret
    exact ⟨rfl, HB1.out⟩

set_option maxHeartbeats 800000 in
set_option maxRecDepth 100000 in
theorem rcount_any (l : List Bool) (A : Option Addr) (c : Nat) (w : World) (hC : Kd.bool.C w A l.length l) : Calls Try.prog 51 #[.slice A l.length c] w fun e w' => e = .returned (.int .i64 (l.count true)) ∧ w' = w := by
  obtain ⟨hmx, ho⟩ := C_openb hC
  have HO := Lib.hid ho
  clear ho hC
  go_enter Try.func51, Try.ntmps51
  go_wp2
  go_loop [3, 4] (fun v3 v4 => ∃ m : Nat, v4 = .int .i64 m ∧ v3 = .int .i64 ((l.take m).count true) ∧ m ≤ l.length) (fun _ v4 => l.length - (intOf v4).toNat)
  case atStart => exact ⟨0, rfl, by simp, by omega⟩
  case round =>
    obtain ⟨m, rfl, rfl, hm⟩ := hrel
    by_cases hlt : m < l.length
    · rcases HO.out with e | ⟨bk, off, rfl, _, hcells⟩
      · subst e; simp at hlt
      have k0 := hcells m hlt
      have htk : l.take (m + 1) = l.take m ++ [l.getD m false] := by
        rw [List.take_add_one, List.getD_eq_getElem?_getD, List.getElem?_eq_getElem hlt]; rfl
      have hcl : (l.take m).count true ≤ m := Nat.le_trans List.count_le_length (by rw [List.length_take]; omega)
      generalize l.getD m false = b at k0 htk
      have HTK := Lib.hid htk
      clear htk hcells
      generalize hcc : (l.take m).count true = cc at hcl
      have HCC := Lib.hid hcc
      clear hcc
      cases b
      all_goals
        go_wp2
        go_round
        case rel => exact ⟨m + 1, by go_num, by rw [HTK.out, List.count_append, HCC.out]; simp, by omega⟩
        case measure => simp [intOf]; omega
    · have hmc : m = l.length := by omega
      subst hmc
      rw [List.take_length]
      go_wp2
      go_ret
      exact ⟨rfl, rfl⟩
end Go.Proofs.Ytigbmbmngkmdlaa.Bm
