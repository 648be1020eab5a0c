/-
  drr: what a ring that is nil, or that no call made, says; the fixed calls.
-/
import Derived.Test.YtbcononfgpfdbaaDf
namespace Go.Proofs.Ytbcononfgpfdbaa.D
open Go.RowKit Go.Proofs.Ytbcononfgpfdbaa.L Go.Proofs.YtbcononfgpfdbaaW.PrintWords

set_option maxHeartbeats 400000 in
theorem nil_spend (x : Int) (w : World) : Calls Try.prog 19 #[.pointer none, .int .i64 x] w fun e w' => e = .returned (.tuple #[.bool false, .int .i64 6]) ∧ w' = w := by
  have HM := Lib.hid (made_nil w)
  go_enter Try.func19, Try.ntmps19
  go_wp2_with fail
  refine HM.out.mono ?_
  rintro e w1 ⟨rfl, rfl⟩
  go_wp2_with fail
  go_ret2
  exact ⟨rfl, rfl⟩
set_option maxHeartbeats 400000 in
theorem zero_spend (b : Nat) (x : Int) (w : World) (h : w.cell? ⟨b, 0, none⟩ = some (.int .i64 0)) : Calls Try.prog 19 #[.pointer (some ⟨b, 0, none⟩), .int .i64 x] w fun e w' => e = .returned (.tuple #[.bool false, .int .i64 6]) ∧ w' = w := by
  have HM := Lib.hid (made_zero b w h)
  go_enter Try.func19, Try.ntmps19
  go_wp2_with fail
  refine HM.out.mono ?_
  rintro e w1 ⟨rfl, rfl⟩
  go_wp2_with fail
  go_ret2
  exact ⟨rfl, rfl⟩
set_option maxHeartbeats 400000 in
theorem nil_turn (w : World) : Calls Try.prog 18 #[.pointer none] w fun e w' => e = .returned (.tuple #[.int .u64 0, .bool false]) ∧ w' = w := by
  have HM := Lib.hid (made_nil w)
  go_enter Try.func18, Try.ntmps18
  go_wp2_with fail
  refine HM.out.mono ?_
  rintro e w1 ⟨rfl, rfl⟩
  go_wp2_with fail
  go_ret2
  exact ⟨rfl, rfl⟩
set_option maxHeartbeats 400000 in
theorem nil_add (x : Int) (w : World) : Calls Try.prog 17 #[.pointer none, .int .u64 x] w fun e w' => e = .returned (.int .i64 6) ∧ w' = w := by
  have HM := Lib.hid (made_nil w)
  go_enter Try.func17, Try.ntmps17
  go_wp2_with fail
  refine HM.out.mono ?_
  rintro e w1 ⟨rfl, rfl⟩
  go_wp2_with fail
  go_ret
  exact ⟨rfl, rfl⟩
set_option maxHeartbeats 400000 in
theorem zero_remove (b : Nat) (x : Int) (w : World) (h : w.cell? ⟨b, 0, none⟩ = some (.int .i64 0)) : Calls Try.prog 21 #[.pointer (some ⟨b, 0, none⟩), .int .u64 x] w fun e w' => e = .returned (.int .i64 6) ∧ w' = w := by
  have HM := Lib.hid (made_zero b w h)
  go_enter Try.func21, Try.ntmps21
  go_wp2_with fail
  refine HM.out.mono ?_
  rintro e w1 ⟨rfl, rfl⟩
  go_wp2_with fail
  go_ret
  exact ⟨rfl, rfl⟩
set_option maxHeartbeats 400000 in
theorem nil_members (w : World) : Calls Try.prog 24 #[.pointer none] w fun e w' => e = .returned (.slice none 0 0) ∧ w' = w := by
  have HM := Lib.hid (made_nil w)
  go_enter Try.func24, Try.ntmps24
  go_wp2_with fail
  refine HM.out.mono ?_
  rintro e w1 ⟨rfl, rfl⟩
  go_wp2_with fail
  go_ret
  exact ⟨rfl, rfl⟩
set_option maxHeartbeats 400000 in
theorem zero_members (b : Nat) (w : World) (h : w.cell? ⟨b, 0, none⟩ = some (.int .i64 0)) : Calls Try.prog 24 #[.pointer (some ⟨b, 0, none⟩)] w fun e w' => e = .returned (.slice none 0 0) ∧ w' = w := by
  have HM := Lib.hid (made_zero b w h)
  go_enter Try.func24, Try.ntmps24
  go_wp2_with fail
  refine HM.out.mono ?_
  rintro e w1 ⟨rfl, rfl⟩
  go_wp2_with fail
  go_ret
  exact ⟨rfl, rfl⟩
set_option maxHeartbeats 400000 in
theorem nil_credit (x : Int) (w : World) : Calls Try.prog 26 #[.pointer none, .int .u64 x] w fun e w' => e = .returned (.int .i64 0) ∧ w' = w := by
  have HM := Lib.hid (made_nil w)
  go_enter Try.func26, Try.ntmps26
  go_wp2_with fail
  refine HM.out.mono ?_
  rintro e w1 ⟨rfl, rfl⟩
  go_wp2_with fail
  go_ret
  exact ⟨rfl, rfl⟩

set_option maxHeartbeats 3200000 in
set_option maxRecDepth 100000 in
theorem alive_any (w : World) : Calls Try.prog 16 #[] w fun e w' => e = .returned (.bool true) ∧ Below w.heap.size w w' := by
  go_enter Try.func16, Try.ntmps16
  go_wp2_with fail
  refine (new_yes 100 w (by decide) (by decide)).mono ?_
  rintro e w0 ⟨b, rfl, hg, hb⟩
  have HF := Lib.hid (FR.of_below hb (Nat.le_refl _))
  have HG0 := Lib.hid hg
  clear hg hb
  have HC := Lib.hid (add_any b w.heap.size 100 ([] : List Mem) 5 w0 HG0.out (by decide) (by decide))
  rw [show addP 100 ([] : List Mem) 5 = (0, [(5, 100)]) from by decide] at HC
  go_wp2_with fail
  refine HC.out.mono ?_
  rintro e w1 ⟨rfl, hg, hf⟩
  replace HF := Lib.hid (HF.out.trans hf)
  have HG1 := Lib.hid hg
  clear hg hf HC HG0
  have HC := Lib.hid (add_any b w.heap.size 100 [(5, 100)] 6 w1 HG1.out (by decide) (by decide))
  rw [show addP 100 [(5, 100)] 6 = (0, [(5, 100), (6, 0)]) from by decide] at HC
  go_wp2_with fail
  refine HC.out.mono ?_
  rintro e w2 ⟨rfl, hg, hf⟩
  replace HF := Lib.hid (HF.out.trans hf)
  have HG2 := Lib.hid hg
  clear hg hf HC HG1
  have HC := Lib.hid (spend_any b w.heap.size 100 [(5, 100), (6, 0)] 64 w2 HG2.out (by decide) (by decide) (by unfold small; decide))
  rw [show spendP 100 [(5, 100), (6, 0)] 64 = (true, 0, [(5, 36), (6, 0)]) from by decide] at HC
  go_wp2_with fail
  refine HC.out.mono ?_
  rintro e w3 ⟨rfl, hg, hf⟩
  replace HF := Lib.hid (HF.out.trans hf)
  have HG3 := Lib.hid hg
  clear hg hf HC HG2
  have HC := Lib.hid (spend_any b w.heap.size 100 [(5, 36), (6, 0)] 64 w3 HG3.out (by decide) (by decide) (by unfold small; decide))
  rw [show spendP 100 [(5, 36), (6, 0)] 64 = (false, 0, [(6, 100), (5, 36)]) from by decide] at HC
  go_wp2_with fail
  refine HC.out.mono ?_
  rintro e w4 ⟨rfl, hg, hf⟩
  replace HF := Lib.hid (HF.out.trans hf)
  have HG4 := Lib.hid hg
  clear hg hf HC HG3
  have HC := Lib.hid (turn_any b w.heap.size 100 [(6, 100), (5, 36)] w4 HG4.out (by decide))
  rw [show headId [(6, 100), (5, 36)] = 6 from rfl] at HC
  go_wp2_with fail
  refine HC.out.mono ?_
  rintro e _ ⟨rfl, rfl⟩
  clear HC
  have HC := Lib.hid (credit_any b w.heap.size 100 [(6, 100), (5, 36)] 5 w4 HG4.out (by decide))
  rw [show credP [(6, 100), (5, 36)] 5 = 36 from by decide] at HC
  go_wp2_with fail
  refine HC.out.mono ?_
  rintro e w5 ⟨rfl, hb⟩
  replace HF := Lib.hid (HF.out.trans (FR.of_below hb HF.out.size))
  have HG5 := Lib.hid (HG4.out.below hb)
  clear hb HC HG4
  have HC := Lib.hid (credit_any b w.heap.size 100 [(6, 100), (5, 36)] 6 w5 HG5.out (by decide))
  rw [show credP [(6, 100), (5, 36)] 6 = 100 from by decide] at HC
  go_wp2_with fail
  refine HC.out.mono ?_
  rintro e w6 ⟨rfl, hb⟩
  replace HF := Lib.hid (HF.out.trans (FR.of_below hb HF.out.size))
  have HG6 := Lib.hid (HG5.out.below hb)
  clear hb HC HG5
  have HC := Lib.hid (add_any b w.heap.size 100 [(6, 100), (5, 36)] 5 w6 HG6.out (by decide) (by decide))
  rw [show addP 100 [(6, 100), (5, 36)] 5 = (7, [(6, 100), (5, 36)]) from by decide] at HC
  go_wp2_with fail
  refine HC.out.mono ?_
  rintro e w7 ⟨rfl, hg, hf⟩
  replace HF := Lib.hid (HF.out.trans hf)
  have HG7 := Lib.hid hg
  clear hg hf HC HG6
  go_wp2_with fail
  go_ret
  exact ⟨rfl, HF.out.below⟩
end Go.Proofs.Ytbcononfgpfdbaa.D
