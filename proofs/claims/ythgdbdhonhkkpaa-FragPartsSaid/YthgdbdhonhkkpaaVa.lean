/-
  vint: the class of a number, and how many bytes it has.
-/
import Derived.Test.YthgdbdhonhkkpaaL
namespace Go.Proofs.Ythgdbdhonhkkpaa.V
open Go.RowKit Go.Proofs.Ythgdbdhonhkkpaa.L Go.Proofs.YthgdbdhonhkkpaaW.PrintWords

set_option maxHeartbeats 400000 in
theorem tops_any (w : World) : Calls Try.prog 125 #[] w fun e w' => e = .returned (.agg #[.int .u64 64, .int .u64 16384, .int .u64 1073741824, .int .u64 4611686018427387904]) ∧ Below w.heap.size w w' := by
  have hu := Try.underlying200
  go_enter Try.func125, Try.ntmps125
  go_wp2
  exact bodyPost_ret (v := .agg #[.int .u64 64, .int .u64 16384, .int .u64 1073741824, .int .u64 4611686018427387904]) (by simp [results, Try.results125, go_sem]) rfl ⟨rfl, (Below.refl _ _).alloc (Nat.le_refl _) _⟩

/-- the class of a number -/
def cls (v : Int) : Int := if v < 64 then 0 else if v < 16384 then 1 else if v < 1073741824 then 2 else if v < 4611686018427387904 then 3 else 4
theorem cls0 {v : Int} (h : v < 64) : cls v = 0 := by unfold cls; rw [if_pos h]
theorem cls1 {v : Int} (h0 : 64 ≤ v) (h : v < 16384) : cls v = 1 := by unfold cls; rw [if_neg (by omega), if_pos h]
theorem cls2 {v : Int} (h0 : 16384 ≤ v) (h : v < 1073741824) : cls v = 2 := by unfold cls; rw [if_neg (by omega), if_neg (by omega), if_pos h]
theorem cls3 {v : Int} (h0 : 1073741824 ≤ v) (h : v < 4611686018427387904) : cls v = 3 := by unfold cls; rw [if_neg (by omega), if_neg (by omega), if_neg (by omega), if_pos h]
theorem cls4 {v : Int} (h0 : 4611686018427387904 ≤ v) : cls v = 4 := by unfold cls; rw [if_neg (by omega), if_neg (by omega), if_neg (by omega), if_neg (by omega)]

set_option maxHeartbeats 400000 in
theorem class_any (v : Int) (w : World) : Calls Try.prog 104 #[.int .u64 v] w fun e w' => e = .returned (.int .i64 (cls v)) ∧ Below w.heap.size w w' := by
  go_enter Try.func104, Try.ntmps104
  go_wp2
  go_step3
  go_wp2_with (go_at_call 125; refine (tops_any _).mono ?_; rintro e w1 ⟨rfl, hb⟩)
  go_wp2
  go_step3
  go_wp2
  refine wp_loop_rounds 5 ?_
  rw [rounds_succ]
  go_wp2
  rotate_left
  rw [rounds_succ]
  go_wp2
  rotate_left
  rw [rounds_succ]
  go_wp2
  rotate_left
  rw [rounds_succ]
  go_wp2
  rotate_left
  rw [rounds_succ]
  go_wp2
  all_goals rw [Exit.noGoto_ret]
  all_goals go_ret
  all_goals refine ⟨?_, hb.alloc hb.size _⟩
  all_goals first | (rw [cls0 (by omega)]; rfl) | (rw [cls1 (by omega) (by omega)]; rfl) | (rw [cls2 (by omega) (by omega)]; rfl) | (rw [cls3 (by omega) (by omega)]; rfl) | (rw [cls4 (by omega)]; rfl)

/-- how many bytes a number has -/
def siz (v : Int) : Int := if v < 64 then 1 else if v < 16384 then 2 else if v < 1073741824 then 4 else if v < 4611686018427387904 then 8 else 0

set_option maxHeartbeats 400000 in
theorem size_any (v : Int) (w : World) : Calls Try.prog 103 #[.int .u64 v] w fun e w' => e = .returned (.int .i64 (siz v)) ∧ Below w.heap.size w w' := by
  have hc : cls v = 0 ∧ siz v = 1 ∨ cls v = 1 ∧ siz v = 2 ∨ cls v = 2 ∧ siz v = 4 ∨ cls v = 3 ∧ siz v = 8 ∨ cls v = 4 ∧ siz v = 0 := by
    unfold cls siz; (repeat' split) <;> simp
  rcases hc with ⟨h1, h2⟩ | ⟨h1, h2⟩ | ⟨h1, h2⟩ | ⟨h1, h2⟩ | ⟨h1, h2⟩
  all_goals
    have hcl := class_any v
    rw [h1] at hcl
    rw [h2]
    clear h1 h2
    go_enter Try.func103, Try.ntmps103
    go_wp2_with (go_at_call 104; refine (hcl _).mono ?_; rintro e w1 ⟨rfl, hb⟩)
    go_ret
    exact ⟨rfl, hb⟩

end Go.Proofs.Ythgdbdhonhkkpaa.V
