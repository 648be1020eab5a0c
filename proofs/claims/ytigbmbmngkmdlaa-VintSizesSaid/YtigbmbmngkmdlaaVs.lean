/-
  vint: the law VintSizes, walked.
-/
import Derived.Test.YtigbmbmngkmdlaaVl
namespace Go.Proofs.Ytigbmbmngkmdlaa.V
open Go.RowKit Go.Proofs.Ytigbmbmngkmdlaa.L Go.Proofs.YtigbmbmngkmdlaaW.PrintWords

theorem siz_mono {a b : Int} (h : a ≤ b) (hb : b < 4611686018427387904) : siz a ≤ siz b := by
  unfold siz; (repeat' split) <;> omega
theorem siz_of {a : Int} (hb : a < 4611686018427387904) : siz a = 1 ∨ siz a = 2 ∨ siz a = 4 ∨ siz a = 8 := by
  unfold siz; (repeat' split) <;> omega
set_option maxHeartbeats 1600000 in
set_option maxRecDepth 100000 in
theorem sizes_walk (a b : Int) (w : World) : Calls Try.prog 7 #[.int .u64 a, .int .u64 b] w fun e w' => e = .returned (.bool true) ∧ Below w.heap.size w w' := by
  have hA := size_any a
  have hB := size_any b
  by_cases h1 : b < a ∨ 4611686018427387903 < b
  · by_cases h2 : a ≤ 4611686018427387903
    · have HA := Lib.hid hA
      have HB := Lib.hid hB
      clear hA hB
      rcases h1 with h1 | h1
      · have t1 : decide (b < a) = true := by simpa using h1
        go_enter Try.func7, Try.ntmps7
        go_wp2_with fail
        refine (HA.out _).mono ?_
        rintro e w1 ⟨rfl, hb1⟩
        go_wp2_with fail
        refine (HB.out _).mono ?_
        rintro e w2 ⟨rfl, hb2⟩
        go_wp2_with fail
        refine (alive01 _).mono ?_
        rintro e w3 ⟨rfl, hb3⟩
        go_wp2
        go_ret
        exact ⟨rfl, stay1 (stay1 hb1 hb2) hb3⟩
      · have t1 : decide (b < a) = false := by simp; omega
        go_enter Try.func7, Try.ntmps7
        go_wp2_with fail
        refine (HA.out _).mono ?_
        rintro e w1 ⟨rfl, hb1⟩
        go_wp2_with fail
        refine (HB.out _).mono ?_
        rintro e w2 ⟨rfl, hb2⟩
        go_wp2_with fail
        refine (alive01 _).mono ?_
        rintro e w3 ⟨rfl, hb3⟩
        go_wp2
        go_ret
        exact ⟨rfl, stay1 (stay1 hb1 hb2) hb3⟩
    · rw [siz0 (by omega)] at hA
      have HA := Lib.hid hA
      have HB := Lib.hid hB
      clear hA hB
      by_cases h3 : b < a
      all_goals
        go_enter Try.func7, Try.ntmps7
        go_wp2_with fail
        refine (HA.out _).mono ?_
        rintro e w1 ⟨rfl, hb1⟩
        go_wp2_with fail
        refine (HB.out _).mono ?_
        rintro e w2 ⟨rfl, hb2⟩
        go_wp2_with fail
        refine (alive01 _).mono ?_
        rintro e w3 ⟨rfl, hb3⟩
        go_wp2
        go_ret
        exact ⟨rfl, stay1 (stay1 hb1 hb2) hb3⟩
  · have h2 : a ≤ b := by omega
    have h3 : b ≤ 4611686018427387903 := by omega
    have hm := siz_mono h2 (by omega)
    have ho := siz_of (a := a) (by omega)
    clear h1
    generalize siz b = y at hB hm
    have HB := Lib.hid hB
    rcases ho with e | e | e | e
    all_goals
      rw [e] at hA hm
      have HA := Lib.hid hA
      clear hA hB e
      go_enter Try.func7, Try.ntmps7
      go_wp2_with fail
      refine (HA.out _).mono ?_
      rintro e w1 ⟨rfl, hb1⟩
      go_wp2_with fail
      refine (HB.out _).mono ?_
      rintro e w2 ⟨rfl, hb2⟩
      go_wp2_with fail
      refine (alive01 _).mono ?_
      rintro e w3 ⟨rfl, hb3⟩
      go_wp2
      go_ret
      exact ⟨rfl, stay1 (stay1 hb1 hb2) hb3⟩
end Go.Proofs.Ytigbmbmngkmdlaa.V
