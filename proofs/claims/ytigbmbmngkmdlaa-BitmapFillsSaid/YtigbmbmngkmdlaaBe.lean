/-
  bitmap: Missing; what must come of fixed calls.
-/
import Derived.Test.YtigbmbmngkmdlaaBd
namespace Go.Proofs.Ytigbmbmngkmdlaa.Bm
open Go.RowKit Go.Proofs.Ytigbmbmngkmdlaa.L Go.Proofs.Ytigbmbmngkmdlaa.Bt Go.Proofs.YtigbmbmngkmdlaaW.PrintWords

theorem info_int : (Try.prog.info? 3).map (fun i => (i.zero, i.size, i.bytes)) = some (some (.int .i64 0), 1, 8) := by kernel_rfl
/-- which chunks below m are not there -/
def gone (x m : Nat) : List Int := ((List.range m).filter (fun i => !x.testBit i)).map (fun i : Nat => (i : Int))
def missR (n : Int) (x : Nat) : List Int := if rgt n x then gone x n.toNat else []
theorem gone_le (x m : Nat) : (gone x m).length ≤ m := by
  unfold gone
  rw [List.length_map]
  exact Nat.le_trans (List.length_filter_le _ _) (by simp)
theorem gone_yes {x m : Nat} (h : x.testBit m = true) : gone x (m + 1) = gone x m := by simp [gone, List.range_succ, h]
theorem gone_no {x m : Nat} (h : x.testBit m = false) : gone x (m + 1) = gone x m ++ [(m : Int)] := by simp [gone, List.range_succ, h]

set_option maxHeartbeats 800000 in
set_option maxRecDepth 100000 in
theorem missing_any (n : Int) (x : Nat) (w : World) (hx : x < 2 ^ 64) : Calls Try.prog 48 #[.agg #[.int .i64 n, .int .u64 x]] w fun e w' => ∃ v0 : Value, e = .returned v0 ∧ (Kd.int .i64).R 3 w' w.heap.size (fun _ => True) v0 (missR n x) ∧ Below w.heap.size w w' := by
  have HR := Lib.hid (fun w => right_any n x w hx)
  have hw := At.new w n x
  have hbel := (Below.refl w.heap.size w).alloc (Nat.le_refl _) (.cells #[.int .i64 n, .int .u64 x] 24)
  obtain ⟨wb, hwb⟩ : ∃ wb, wb = w.alloc (.cells #[.int .i64 n, .int .u64 x] 24) := ⟨_, rfl⟩
  rw [← hwb] at hw hbel
  have HB := Lib.hid hbel
  have HW := Lib.hid hw
  have HSZ := Lib.hid (show wb.heap.size = w.heap.size + 1 from by rw [hwb]; simp)
  have k0 := hw.c0
  have k1 := hw.c1
  clear hw hbel
  unfold missR
  cases h1 : rgt n x
  · rw [h1] at HR
    go_enter Try.func48, Try.ntmps48
    go_wp2_with fail
    rw [← hwb]
    clear hwb
    refine (HR.out _).mono ?_
    rintro e w1 ⟨rfl, hb1⟩
    have HB1 := Lib.hid (stay1 HB.out hb1)
    clear hb1
    go_wp2
    go_ret
    exact ⟨_, rfl, Kd.R_nil _ _ _ _ _, HB1.out⟩
  · rw [h1] at HR
    have hn : 0 ≤ n ∧ n ≤ 64 := by simp [rgt] at h1; exact h1.1
    obtain ⟨c, rfl⟩ := Int.eq_ofNat_of_zero_le hn.1
    have HH := Lib.hid (fun (w : World) (i : Nat) (hi : i < c) => (has_any c x i w hx).mono fun e w' h => (show e = .returned (.bool (x.testBit i)) ∧ _ from ⟨h.1.trans (by simp [hasB, h1, hi]), h.2⟩))
    have hc : c ≤ 64 := by omega
    rw [Int.toNat_natCast]
    go_enter Try.func48, Try.ntmps48
    go_wp2_with fail
    rw [← hwb]
    clear hwb
    refine (HR.out _).mono ?_
    rintro e w1 ⟨rfl, hb1⟩
    have HB1 := Lib.hid hb1
    have q0 := (HW.out.below hb1).c0
    have q1 := (HW.out.below hb1).c1
    clear hb1
    go_wp2_with fail
    clear HR k0 k1 q0 q1
    go_loopg [3, 9] (c + 1) (fun g v3 v9 w' => ∃ m : Nat, v9 = .int .i64 m ∧ Hid (m ≤ c ∧ c < g + m) ∧ Hid ((Kd.int .i64).R 3 w' wb.heap.size (fun _ => True) v3 (gone x m)) ∧ Hid (Below wb.heap.size wb w'))
    case atStart => exact ⟨0, rfl, Lib.hid ⟨by omega, by omega⟩, Lib.hid (Kd.R_nil _ _ _ _ _), HB1⟩
    case round =>
      obtain ⟨m, rfl, HJ, HR, HBr⟩ := hrel
      cases gk with
      | zero => have := HJ.out; omega
      | succ g =>
        obtain ⟨hj1, hj2⟩ := HJ.out
        clear HJ
        by_cases hlt : m < c
        · have q0 := (HW.out.below HBr.out).c0
          have q1 := (HW.out.below HBr.out).c1
          have hh := fun w => HH.out w m hlt
          have HG := Lib.hid (gone_le x m)
          cases hbit : x.testBit m
          · rw [hbit] at hh
            have HH1 := Lib.hid hh
            have HT := Lib.hid (gone_no hbit)
            clear hh hbit
            go_wp2_with (first
              | (go_at_call 50; refine (HH1.out _).mono ?_; rintro e w2 ⟨rfl, hb2⟩; (have HB2 := Lib.hid (stay1 HBr.out hb2)); (have HR2 := Lib.hid (Kd.R_below HR.out hb2)); clear hb2)
              | (at_builtin; refine app1 (w0 := wb) .i64 wb.heap.size (.tmp 16) (.tmp 18) 81 3 8 rfl rfl Try.underlying81 info_int (by decide) u3 (gone x m) (m : Int) rfl rfl HR2.out HB2.out HB2.out.size (by have := HG.out; omega) ?_; intro v2 w3 ho2 hb2 _; (have HB3 := Lib.hid hb2); (have HR3 := Lib.hid ho2); clear ho2 hb2))
            go_roundg g
            case measure => omega
            case rel => exact ⟨m + 1, by go_num, Lib.hid ⟨by omega, by omega⟩, Lib.hid (by rw [HT.out]; exact HR3.out), HB3⟩
          · rw [hbit] at hh
            have HH1 := Lib.hid hh
            have HT := Lib.hid (gone_yes hbit)
            clear hh hbit
            go_wp2_with (go_at_call 50; refine (HH1.out _).mono ?_; rintro e w2 ⟨rfl, hb2⟩; (have HB2 := Lib.hid (stay1 HBr.out hb2)); (have HR2 := Lib.hid (Kd.R_below HR.out hb2)); clear hb2)
            go_roundg g
            case measure => omega
            case rel => exact ⟨m + 1, by go_num, Lib.hid ⟨by omega, by omega⟩, Lib.hid (by rw [HT.out]; exact HR2.out), HB2⟩
        · have hmc : m = c := by omega
          subst hmc
          go_wp2
          go_ret
          exact ⟨_, rfl, Kd.R_lower HR.out HB.out.size, stay1 HB.out HBr.out⟩
end Go.Proofs.Ytigbmbmngkmdlaa.Bm
