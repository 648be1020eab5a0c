/-
  style: isColour, Right, flag, plain.
-/
import Derived.Test.YthgdbdhonhkkpaaTb
import Derived.Test.YthgdbdhonhkkpaaQ
import Derived.Test.YthgdbdhonhkkpaaQf
import Derived.Test.YthgdbdhonhkkpaaNt
import Derived.Test.YthgdbdhonhkkpaaNe
namespace Go.Proofs.Ythgdbdhonhkkpaa.St
open Go.RowKit Go.Proofs.Ythgdbdhonhkkpaa.L Go.Proofs.Ythgdbdhonhkkpaa.V Go.Proofs.Ythgdbdhonhkkpaa.N Go.Proofs.YthgdbdhonhkkpaaW.PrintWords

abbrev tS : TypeId := 57
def stA (s : Sty) : Array Value := #[.int .u8 (s.1 : Int), .int .u32 (s.2.1 : Int), .int .u32 (s.2.2 : Int)]
def OB (b : Nat) (s : Sty) (w : World) : Prop := w.heap[b]? = some (.cells (stA s) tS (0, 0))
theorem OB.c0 {b : Nat} {s : Sty} {w : World} (h : OB b s w) : w.cell? ⟨b, 0, none⟩ = some (.int .u8 (s.1 : Int)) := (blk_cell h 0).trans rfl
theorem OB.c1 {b : Nat} {s : Sty} {w : World} (h : OB b s w) : w.cell? ⟨b, 1, none⟩ = some (.int .u32 (s.2.1 : Int)) := (blk_cell h 1).trans rfl
theorem OB.c2 {b : Nat} {s : Sty} {w : World} (h : OB b s w) : w.cell? ⟨b, 2, none⟩ = some (.int .u32 (s.2.2 : Int)) := (blk_cell h 2).trans rfl
theorem OB.fz {b : Nat} {s : Sty} {w : World} (h : OB b s w) (i : Nat) : w.frozen? ⟨b, i, none⟩ = false := blk_frozen h i
theorem OB.s0 {b : Nat} {s : Sty} {w : World} (h : OB b s w) (x : Nat) : OB b (x, s.2) (w.setCell ⟨b, 0, none⟩ (.int .u8 (x : Int))) := by
  unfold OB; rw [blk_set h 0]; rfl
theorem OB.s1 {b : Nat} {s : Sty} {w : World} (h : OB b s w) (x : Nat) : OB b (s.1, x, s.2.2) (w.setCell ⟨b, 1, none⟩ (.int .u32 (x : Int))) := by
  unfold OB; rw [blk_set h 1]; rfl
theorem OB.s2 {b : Nat} {s : Sty} {w : World} (h : OB b s w) (x : Nat) : OB b (s.1, s.2.1, x) (w.setCell ⟨b, 2, none⟩ (.int .u32 (x : Int))) := by
  unfold OB; rw [blk_set h 2]; rfl
theorem OB.below {b : Nat} {s : Sty} {w w1 : World} (h : OB b s w) (hb : Below w.heap.size w w1) : OB b s w1 := blk_below h hb
theorem OB.drew {b : Nat} {s : Sty} {w : World} (h : OB b s w) : OB b s w.drew := h
theorem OB.lt {b : Nat} {s : Sty} {w : World} (h : OB b s w) : b < w.heap.size := blk_lt h
set_option maxRecDepth 100000 in
theorem iscol_any (c : Nat) (w : World) : Calls Try.prog 72 #[.int .u32 (c : Int)] w fun e w' => e = .returned (.bool (colB c)) ∧ w' = w := by
  by_cases hg0 : c = 0
  · subst hg0
    have He := Lib.hid (show colB 0 = true from rfl)
    go_enter Try.func72, Try.ntmps72
    go_wp2_with fail
    go_ret
    exact ⟨by rw [He.out]; rfl, rfl⟩
  have g0 : ((c : Int) == 0) = false := by rw [beq_eq_false_iff_ne]; omega
  have g0n : (c == 0) = false := by rw [beq_eq_false_iff_ne]; omega
  by_cases hg0 : c < 16777216
  · have He := Lib.hid (show colB c = false from decide_eq_false (by omega))
    have g1 : decide ((16777216 : Int) ≤ (c : Int)) = false := decide_eq_false (by omega)
    have g1n : decide (16777216 ≤ c) = false := decide_eq_false (by omega)
    have g3 : decide ((33554432 : Int) ≤ (c : Int)) = false := decide_eq_false (by omega)
    have g3n : decide (33554432 ≤ c) = false := decide_eq_false (by omega)
    clear hg0
    go_enter Try.func72, Try.ntmps72
    go_wp2_with fail
    go_ret
    exact ⟨by rw [He.out]; rfl, rfl⟩
  by_cases hg1 : c ≤ 16777471
  · have He := Lib.hid (show colB c = true from decide_eq_true (by omega))
    have g1 : decide ((16777216 : Int) ≤ (c : Int)) = true := decide_eq_true (by omega)
    have g1n : decide (16777216 ≤ c) = true := decide_eq_true (by omega)
    have g2 : decide ((c : Int) ≤ 16777471) = true := decide_eq_true (by omega)
    have g2n : decide (c ≤ 16777471) = true := decide_eq_true (by omega)
    clear hg0 hg1
    go_enter Try.func72, Try.ntmps72
    go_wp2_with fail
    go_ret
    exact ⟨by rw [He.out]; rfl, rfl⟩
  by_cases hg2 : c < 33554432
  · have He := Lib.hid (show colB c = false from decide_eq_false (by omega))
    have g1 : decide ((16777216 : Int) ≤ (c : Int)) = true := decide_eq_true (by omega)
    have g1n : decide (16777216 ≤ c) = true := decide_eq_true (by omega)
    have g2 : decide ((c : Int) ≤ 16777471) = false := decide_eq_false (by omega)
    have g2n : decide (c ≤ 16777471) = false := decide_eq_false (by omega)
    have g3 : decide ((33554432 : Int) ≤ (c : Int)) = false := decide_eq_false (by omega)
    have g3n : decide (33554432 ≤ c) = false := decide_eq_false (by omega)
    clear hg0 hg1 hg2
    go_enter Try.func72, Try.ntmps72
    go_wp2_with fail
    go_ret
    exact ⟨by rw [He.out]; rfl, rfl⟩
  by_cases hg3 : c < 50331648
  · have He := Lib.hid (show colB c = true from decide_eq_true (by omega))
    have g1 : decide ((16777216 : Int) ≤ (c : Int)) = true := decide_eq_true (by omega)
    have g1n : decide (16777216 ≤ c) = true := decide_eq_true (by omega)
    have g2 : decide ((c : Int) ≤ 16777471) = false := decide_eq_false (by omega)
    have g2n : decide (c ≤ 16777471) = false := decide_eq_false (by omega)
    have g3 : decide ((33554432 : Int) ≤ (c : Int)) = true := decide_eq_true (by omega)
    have g3n : decide (33554432 ≤ c) = true := decide_eq_true (by omega)
    have g4 : decide ((c : Int) < 50331648) = true := decide_eq_true (by omega)
    have g4n : decide (c < 50331648) = true := decide_eq_true (by omega)
    clear hg0 hg1 hg2 hg3
    go_enter Try.func72, Try.ntmps72
    go_wp2_with fail
    go_ret
    exact ⟨by rw [He.out]; rfl, rfl⟩
  have He := Lib.hid (show colB c = false from decide_eq_false (by omega))
  have g1 : decide ((16777216 : Int) ≤ (c : Int)) = true := decide_eq_true (by omega)
  have g1n : decide (16777216 ≤ c) = true := decide_eq_true (by omega)
  have g2 : decide ((c : Int) ≤ 16777471) = false := decide_eq_false (by omega)
  have g2n : decide (c ≤ 16777471) = false := decide_eq_false (by omega)
  have g3 : decide ((33554432 : Int) ≤ (c : Int)) = true := decide_eq_true (by omega)
  have g3n : decide (33554432 ≤ c) = true := decide_eq_true (by omega)
  have g4 : decide ((c : Int) < 50331648) = false := decide_eq_false (by omega)
  have g4n : decide (c < 50331648) = false := decide_eq_false (by omega)
  clear hg0 hg1 hg2 hg3
  go_enter Try.func72, Try.ntmps72
  go_wp2_with fail
  go_ret
  exact ⟨by rw [He.out]; rfl, rfl⟩
set_option maxRecDepth 100000 in
theorem right_any (s : Sty) (w : World) : Calls Try.prog 40 #[.agg (stA s)] w fun e w' => e = .returned (.bool (rightB s)) ∧ Below w.heap.size w w' := by
  obtain ⟨f, a, b⟩ := s
  unfold stA
  dsimp only
  by_cases h : colB a = true
  · have He := Lib.hid (show rightB (f, a, b) = colB b from by simp [rightB, h])
    go_enter Try.func40, Try.ntmps40
    go_wp2_with (go_at_call 72; refine (iscol_any _ _).mono ?_; rintro e w1 ⟨rfl, hw1⟩; (rw [hw1]); clear hw1 w1)
    go_ret
    exact ⟨by rw [He.out]; rfl, (Below.refl _ _).alloc (Nat.le_refl _) _⟩
  · have h := eq_false_of_ne_true h
    have He := Lib.hid (show rightB (f, a, b) = false from by simp [rightB, h])
    go_enter Try.func40, Try.ntmps40
    go_wp2_with (go_at_call 72; refine (iscol_any _ _).mono ?_; rintro e w1 ⟨rfl, hw1⟩; (rw [hw1]); clear hw1 w1)
    go_ret
    exact ⟨by rw [He.out]; rfl, (Below.refl _ _).alloc (Nat.le_refl _) _⟩
set_option maxRecDepth 100000 in
set_option maxHeartbeats 800000 in
theorem flag_any (n : Int) (w : World) : Calls Try.prog 68 #[.int .i64 n] w fun e w' => e = .returned (.int .u8 (flagN n : Nat)) ∧ w' = w := by
  by_cases h0 : n < 1 ∨ n = 6 ∨ 9 < n
  · have He := Lib.hid (flag_no h0)
    rcases h0 with h0 | h0 | h0
    · have t1 : decide (1 ≤ n) = false := decide_eq_false (by omega)
      have t2 : decide (7 ≤ n) = false := decide_eq_false (by omega)
      clear h0
      go_enter Try.func68, Try.ntmps68
      go_wp2_with fail
      go_ret
      exact ⟨by rw [He.out]; rfl, rfl⟩
    · subst h0
      go_enter Try.func68, Try.ntmps68
      go_wp2_with fail
      go_ret
      exact ⟨rfl, rfl⟩
    · have t1 : decide (1 ≤ n) = true := decide_eq_true (by omega)
      have t2 : decide (n ≤ 5) = false := decide_eq_false (by omega)
      have t3 : decide (7 ≤ n) = true := decide_eq_true (by omega)
      have t4 : decide (n ≤ 9) = false := decide_eq_false (by omega)
      clear h0
      go_enter Try.func68, Try.ntmps68
      go_wp2_with fail
      go_ret
      exact ⟨by rw [He.out]; rfl, rfl⟩
  · rcases (show n = 1 ∨ n = 2 ∨ n = 3 ∨ n = 4 ∨ n = 5 ∨ n = 7 ∨ n = 8 ∨ n = 9 from by omega) with h | h | h | h | h | h | h | h <;> subst h <;> clear h0
    all_goals
      go_enter Try.func68, Try.ntmps68
      go_wp2_with fail
      go_ret
      exact ⟨rfl, rfl⟩
theorem u8or (a b : Nat) (ha : a < 256) (hb : b < 256) : bits .or .u8 (a : Int) (b : Int) = ((a ||| b : Nat) : Int) := or_u8 a b ha hb
theorem u8an3 (a : Nat) (ha : a < 256) : bits .andNot .u8 (a : Int) 3 = ((a &&& 252 : Nat) : Int) := u8_andNot_nat a 3 ha (by decide)
set_option maxRecDepth 100000 in
set_option maxHeartbeats 3200000 in
theorem plain_any (b : Nat) (s : Sty) (n : Int) (w : World) (h : OB b s w) (hs : s.1 < 256) :
    Calls Try.prog 66 #[.pointer (some ⟨b, 0, none⟩), .int .i64 n] w fun e w' => e = .returned (.tuple #[]) ∧ OB b (plainS s n) w' ∧ w.grownBy w' (some b) := by
  have c0 := h.c0
  have c1 := h.c1
  have c2 := h.c2
  have f0 := h.fz 0
  have f1 := h.fz 1
  have f2 := h.fz 2
  have HO := Lib.hid h
  by_cases h0 : n = 0
  · subst h0
    have HE := Lib.hid (show plainS s 0 = (0, 0, 0) from rfl)
    clear h hs
    go_enter Try.func66, Try.ntmps66
    go_wp2_with fail
    first | go_end0 | (simp only [Exit.inBlock, Exit.then]; refine bodyPost_ret (results_none rfl _ _ _) rfl ?_) | refine bodyPost_ret (results_none rfl _ _ _) rfl ?_
    rw [HE.out]
    exact ⟨rfl, (HO.out.s0 0).s1 0 |>.s2 0, (grown_set _ _ _ _).trans ((grown_set _ _ _ _).trans (grown_set _ _ _ _))⟩
  have t0 : (n == 0) = false := by rw [beq_eq_false_iff_ne]; exact h0
  have q0 := gw h.lt h.c0
  by_cases h1 : flagN n ≠ 0
  · have HE := Lib.hid (show plainS s n = (s.1 ||| flagN n, s.2) from by unfold plainS; rw [if_neg h0, if_pos h1])
    have r0 := u8or s.1 (flagN n) hs (flag_lt n)
    have t1 : (((flagN n : Nat) : Int) != 0) = true := by rw [bne_iff_ne]; omega
    have t1n : (flagN n != 0) = true := by rw [bne_iff_ne]; exact h1
    clear c0 c1 c2 f0 f1 f2 h0 h1 hs
    clear h 
    go_enter Try.func66, Try.ntmps66
    go_wp2_with (go_at_call 68; refine (flag_any _ _).mono ?_; rintro e w1 ⟨rfl, hw1⟩; (rw [hw1]); clear hw1 w1)
    refine Q.wp_region_segsF none [([0, 1, 2, 3, 4], some 5)] [6, 7, 8] 9 (by kernel_rfl) (by kernel_rfl) (by kernel_rfl) (by kernel_rfl) ?_
    dsimp only [Q.wpSegsF, Q.picks, Q.pick]
    repeat (go_big_quiet_step (fail))
    refine wpQuiet_nil ?_
    go_wp2_with (go_at_call 68; refine (flag_any _ _).mono ?_; rintro e w1 ⟨rfl, hw1⟩; (rw [hw1]); clear hw1 w1)
    refine Q.ev_keep (Below.refl _ _) (Nat.le_refl _) ?_
    clear q0
    repeat (go_big_quiet_step (fail))
    refine wpQuiet_nil ?_
    have k0 := (HO.out.drew).c0
    have g0 := (HO.out.drew).fz 0
    go_wp2_with fail
    refine NoPanic.normal ?_
    clear k0 g0
    go_wp2_with fail
    first | go_end0 | (simp only [Exit.inBlock, Exit.then]; refine bodyPost_ret (results_none rfl _ _ _) rfl ?_) | refine bodyPost_ret (results_none rfl _ _ _) rfl ?_
    rw [HE.out]
    exact ⟨rfl, (HO.out.s0 _).drew, (grown_set _ _ _ _).trans (grown_drew _ _)⟩
  have h1 : flagN n = 0 := Classical.not_not.1 h1
  have t1 : (((flagN n : Nat) : Int) != 0) = false := by rw [h1]; rfl
  have t1n : (flagN n != 0) = false := by rw [h1]; rfl
  have h9 : ¬ (1 ≤ n ∧ n ≤ 9 ∧ n ≠ 6) := fun ⟨a1, a2, a3⟩ => flag_yes a1 a2 a3 h1
  by_cases h2 : n = 22
  · subst h2
    have HE := Lib.hid (show plainS s 22 = (s.1 &&& 252, s.2) from rfl)
    have r0 := u8an3 s.1 hs
    clear t0 t1 t1n
    clear h hs h0 h1 h9 q0
    go_enter Try.func66, Try.ntmps66
    go_wp2_with (go_at_call 68; refine (flag_any _ _).mono ?_; rintro e w1 ⟨rfl, hw1⟩; (rw [hw1]); clear hw1 w1)
    first | go_end0 | (simp only [Exit.inBlock, Exit.then]; refine bodyPost_ret (results_none rfl _ _ _) rfl ?_) | refine bodyPost_ret (results_none rfl _ _ _) rfl ?_
    rw [HE.out]
    exact ⟨rfl, HO.out.s0 _, grown_set _ _ _ _⟩
  have t2 : (n == 22) = false := by rw [beq_eq_false_iff_ne]; exact h2
  by_cases h3 : 22 < n ∧ n < 30
  · have HE := Lib.hid (show plainS s n = (s.1 &&& (255 - flagN (n - 20)), s.2) from by unfold plainS; rw [if_neg h0, if_neg (by rw [h1]; decide), if_neg h2, if_pos h3])
    have r0 := u8_andNot_nat s.1 (flagN (n - 20)) hs (flag_lt _)
    have t3 : decide (22 < n) = true := decide_eq_true h3.1
    have t4 : decide (n < 30) = true := decide_eq_true h3.2
    have z1 : n < 30 := h3.2
    have z2 : 22 < n := h3.1
    clear c0 c1 c2 f0 f1 f2 h0 h1 h2 h3 h9 hs
    clear h 
    go_enter Try.func66, Try.ntmps66
    go_wp2_with (go_at_call 68; refine (flag_any _ _).mono ?_; rintro e w1 ⟨rfl, hw1⟩; (rw [hw1]); clear hw1 w1)
    refine Q.wp_region_segsF none [([0, 1, 2, 3, 4, 5], some 6)] [7, 8, 9] 10 (by kernel_rfl) (by kernel_rfl) (by kernel_rfl) (by kernel_rfl) ?_
    dsimp only [Q.wpSegsF, Q.picks, Q.pick]
    repeat (go_big_quiet_step (fail))
    refine wpQuiet_nil ?_
    go_wp2_with (go_at_call 68; refine (flag_any _ _).mono ?_; rintro e w1 ⟨rfl, hw1⟩; (rw [hw1]); clear hw1 w1)
    refine Q.ev_keep (Below.refl _ _) (Nat.le_refl _) ?_
    clear q0
    repeat (go_big_quiet_step (fail))
    refine wpQuiet_nil ?_
    have k0 := (HO.out.drew).c0
    have g0 := (HO.out.drew).fz 0
    go_wp2_with fail
    refine NoPanic.normal ?_
    clear k0 g0
    go_wp2_with fail
    first | go_end0 | (simp only [Exit.inBlock, Exit.then]; refine bodyPost_ret (results_none rfl _ _ _) rfl ?_) | refine bodyPost_ret (results_none rfl _ _ _) rfl ?_
    rw [HE.out]
    exact ⟨rfl, (HO.out.s0 _).drew, (grown_set _ _ _ _).trans (grown_drew _ _)⟩
  have e3 : ∀ x, (if n = 0 then (0, 0, 0) else if flagN n ≠ 0 then (s.1 ||| flagN n, s.2) else if n = 22 then (s.1 &&& 252, s.2) else if 22 < n ∧ n < 30 then (s.1 &&& (255 - flagN (n - 20)), s.2) else x : Sty) = x := fun x => by
    rw [if_neg h0, if_neg (by rw [h1]; decide), if_neg h2, if_neg h3]
  have e4 : plainS s n = if n = 39 then (s.1, 0, s.2.2) else if n = 49 then (s.1, s.2.1, 0) else if 30 ≤ n ∧ n ≤ 37 then (s.1, (16777216 + (n - 30)).toNat, s.2.2) else if 40 ≤ n ∧ n ≤ 47 then (s.1, s.2.1, (16777216 + (n - 40)).toNat) else if 90 ≤ n ∧ n ≤ 97 then (s.1, (16777216 + (n - 82)).toNat, s.2.2) else if 100 ≤ n ∧ n ≤ 107 then (s.1, s.2.1, (16777216 + (n - 92)).toNat) else s := e3 _
  clear e3 q0 hs
  have HOff := Lib.hid h
  clear h
  obtain ⟨p, hp⟩ : ∃ p, plainS s n = p := ⟨_, rfl⟩
  rw [hp] at e4
  have HP := Lib.hid hp
  clear hp
  by_cases hh39 : n = 39
  · subst hh39
    rw [if_pos rfl] at e4
    subst e4
    clear t0 t1 t1n t2
    clear HO h0 h1 h2 h3 h9
    go_enter Try.func66, Try.ntmps66
    go_wp2_with (go_at_call 68; refine (flag_any _ _).mono ?_; rintro e w1 ⟨rfl, hw1⟩; (rw [hw1]); clear hw1 w1)
    first | go_end0 | (simp only [Exit.inBlock, Exit.then]; refine bodyPost_ret (results_none rfl _ _ _) rfl ?_) | refine bodyPost_ret (results_none rfl _ _ _) rfl ?_
    rw [HP.out]
    exact ⟨rfl, HOff.out.s1 0, grown_set _ _ _ _⟩
  by_cases hh49 : n = 49
  · subst hh49
    rw [if_neg (by omega), if_pos rfl] at e4
    subst e4
    clear t0 t1 t1n t2
    clear HO h0 h1 h2 h3 h9 hh39
    go_enter Try.func66, Try.ntmps66
    go_wp2_with (go_at_call 68; refine (flag_any _ _).mono ?_; rintro e w1 ⟨rfl, hw1⟩; (rw [hw1]); clear hw1 w1)
    first | go_end0 | (simp only [Exit.inBlock, Exit.then]; refine bodyPost_ret (results_none rfl _ _ _) rfl ?_) | refine bodyPost_ret (results_none rfl _ _ _) rfl ?_
    rw [HP.out]
    exact ⟨rfl, HOff.out.s2 0, grown_set _ _ _ _⟩
  by_cases hh30 : 30 ≤ n ∧ n ≤ 37
  · obtain ⟨m, hm⟩ : ∃ m : Nat, n = (m : Int) := ⟨n.toNat, by omega⟩
    subst hm
    rw [if_neg (by omega), if_neg (by omega), if_pos (by omega)] at e4
    rw [show (16777216 + ((m : Int) - 30)).toNat = 16777216 + m - 30 from by omega] at e4
    subst e4
    have p22 : decide (22 < (m : Int)) = true := decide_eq_true (by omega)
    have p30 : decide (30 ≤ (m : Int)) = true := decide_eq_true (by omega)
    have p40 : decide (40 ≤ (m : Int)) = false := decide_eq_false (by omega)
    have p90 : decide (90 ≤ (m : Int)) = false := decide_eq_false (by omega)
    have p100 : decide (100 ≤ (m : Int)) = false := decide_eq_false (by omega)
    have l30 : decide ((m : Int) < 30) = false := decide_eq_false (by omega)
    have l37 : decide ((m : Int) ≤ 37) = true := decide_eq_true (by omega)
    have l47 : decide ((m : Int) ≤ 47) = true := decide_eq_true (by omega)
    have l97 : decide ((m : Int) ≤ 97) = true := decide_eq_true (by omega)
    have l107 : decide ((m : Int) ≤ 107) = true := decide_eq_true (by omega)
    have e39 : ((m : Int) == 39) = false := by rw [beq_eq_false_iff_ne]; omega
    have e49 : ((m : Int) == 49) = false := by rw [beq_eq_false_iff_ne]; omega
    have z1 : (m : Int) ≤ 37 := by omega
    have z2 : 30 ≤ (m : Int) := by omega
    have ZZ := Lib.hid hh30
    have HN := Lib.hid (show ((16777216 : Int) + ((m : Int) - 30)) = ((16777216 + m - 30 : Nat) : Int) from by omega)
    clear HO h0 h1 h2 h3 h9 hh39 hh49 hh30
    go_enter Try.func66, Try.ntmps66
    go_wp2_with (go_at_call 68; refine (flag_any _ _).mono ?_; rintro e w1 ⟨rfl, hw1⟩; (rw [hw1]); clear hw1 w1)
    first | go_end0 | (simp only [Exit.inBlock, Exit.then]; refine bodyPost_ret (results_none rfl _ _ _) rfl ?_) | refine bodyPost_ret (results_none rfl _ _ _) rfl ?_
    rw [HP.out, HN.out]
    exact ⟨rfl, HOff.out.s1 _, grown_set _ _ _ _⟩
  by_cases hh40 : 40 ≤ n ∧ n ≤ 47
  · obtain ⟨m, hm⟩ : ∃ m : Nat, n = (m : Int) := ⟨n.toNat, by omega⟩
    subst hm
    rw [if_neg (by omega), if_neg (by omega), if_neg (by omega), if_pos (by omega)] at e4
    rw [show (16777216 + ((m : Int) - 40)).toNat = 16777216 + m - 40 from by omega] at e4
    subst e4
    have p22 : decide (22 < (m : Int)) = true := decide_eq_true (by omega)
    have p30 : decide (30 ≤ (m : Int)) = true := decide_eq_true (by omega)
    have p40 : decide (40 ≤ (m : Int)) = true := decide_eq_true (by omega)
    have p90 : decide (90 ≤ (m : Int)) = false := decide_eq_false (by omega)
    have p100 : decide (100 ≤ (m : Int)) = false := decide_eq_false (by omega)
    have l30 : decide ((m : Int) < 30) = false := decide_eq_false (by omega)
    have l37 : decide ((m : Int) ≤ 37) = false := decide_eq_false (by omega)
    have l47 : decide ((m : Int) ≤ 47) = true := decide_eq_true (by omega)
    have l97 : decide ((m : Int) ≤ 97) = true := decide_eq_true (by omega)
    have l107 : decide ((m : Int) ≤ 107) = true := decide_eq_true (by omega)
    have e39 : ((m : Int) == 39) = false := by rw [beq_eq_false_iff_ne]; omega
    have e49 : ((m : Int) == 49) = false := by rw [beq_eq_false_iff_ne]; omega
    have z1 : (m : Int) ≤ 47 := by omega
    have z2 : 40 ≤ (m : Int) := by omega
    have ZZ := Lib.hid hh40
    have HN := Lib.hid (show ((16777216 : Int) + ((m : Int) - 40)) = ((16777216 + m - 40 : Nat) : Int) from by omega)
    clear HO h0 h1 h2 h3 h9 hh39 hh49 hh30 hh40
    go_enter Try.func66, Try.ntmps66
    go_wp2_with (go_at_call 68; refine (flag_any _ _).mono ?_; rintro e w1 ⟨rfl, hw1⟩; (rw [hw1]); clear hw1 w1)
    first | go_end0 | (simp only [Exit.inBlock, Exit.then]; refine bodyPost_ret (results_none rfl _ _ _) rfl ?_) | refine bodyPost_ret (results_none rfl _ _ _) rfl ?_
    rw [HP.out, HN.out]
    exact ⟨rfl, HOff.out.s2 _, grown_set _ _ _ _⟩
  by_cases hh90 : 90 ≤ n ∧ n ≤ 97
  · obtain ⟨m, hm⟩ : ∃ m : Nat, n = (m : Int) := ⟨n.toNat, by omega⟩
    subst hm
    rw [if_neg (by omega), if_neg (by omega), if_neg (by omega), if_neg (by omega), if_pos (by omega)] at e4
    rw [show (16777216 + ((m : Int) - 82)).toNat = 16777216 + m - 82 from by omega] at e4
    subst e4
    have p22 : decide (22 < (m : Int)) = true := decide_eq_true (by omega)
    have p30 : decide (30 ≤ (m : Int)) = true := decide_eq_true (by omega)
    have p40 : decide (40 ≤ (m : Int)) = true := decide_eq_true (by omega)
    have p90 : decide (90 ≤ (m : Int)) = true := decide_eq_true (by omega)
    have p100 : decide (100 ≤ (m : Int)) = false := decide_eq_false (by omega)
    have l30 : decide ((m : Int) < 30) = false := decide_eq_false (by omega)
    have l37 : decide ((m : Int) ≤ 37) = false := decide_eq_false (by omega)
    have l47 : decide ((m : Int) ≤ 47) = false := decide_eq_false (by omega)
    have l97 : decide ((m : Int) ≤ 97) = true := decide_eq_true (by omega)
    have l107 : decide ((m : Int) ≤ 107) = true := decide_eq_true (by omega)
    have e39 : ((m : Int) == 39) = false := by rw [beq_eq_false_iff_ne]; omega
    have e49 : ((m : Int) == 49) = false := by rw [beq_eq_false_iff_ne]; omega
    have z1 : (m : Int) ≤ 97 := by omega
    have z2 : 90 ≤ (m : Int) := by omega
    have ZZ := Lib.hid hh90
    have HN := Lib.hid (show ((16777216 : Int) + ((m : Int) - 82)) = ((16777216 + m - 82 : Nat) : Int) from by omega)
    clear HO h0 h1 h2 h3 h9 hh39 hh49 hh30 hh40 hh90
    go_enter Try.func66, Try.ntmps66
    go_wp2_with (go_at_call 68; refine (flag_any _ _).mono ?_; rintro e w1 ⟨rfl, hw1⟩; (rw [hw1]); clear hw1 w1)
    first | go_end0 | (simp only [Exit.inBlock, Exit.then]; refine bodyPost_ret (results_none rfl _ _ _) rfl ?_) | refine bodyPost_ret (results_none rfl _ _ _) rfl ?_
    rw [HP.out, HN.out]
    exact ⟨rfl, HOff.out.s1 _, grown_set _ _ _ _⟩
  by_cases hh100 : 100 ≤ n ∧ n ≤ 107
  · obtain ⟨m, hm⟩ : ∃ m : Nat, n = (m : Int) := ⟨n.toNat, by omega⟩
    subst hm
    rw [if_neg (by omega), if_neg (by omega), if_neg (by omega), if_neg (by omega), if_neg (by omega), if_pos (by omega)] at e4
    rw [show (16777216 + ((m : Int) - 92)).toNat = 16777216 + m - 92 from by omega] at e4
    subst e4
    have p22 : decide (22 < (m : Int)) = true := decide_eq_true (by omega)
    have p30 : decide (30 ≤ (m : Int)) = true := decide_eq_true (by omega)
    have p40 : decide (40 ≤ (m : Int)) = true := decide_eq_true (by omega)
    have p90 : decide (90 ≤ (m : Int)) = true := decide_eq_true (by omega)
    have p100 : decide (100 ≤ (m : Int)) = true := decide_eq_true (by omega)
    have l30 : decide ((m : Int) < 30) = false := decide_eq_false (by omega)
    have l37 : decide ((m : Int) ≤ 37) = false := decide_eq_false (by omega)
    have l47 : decide ((m : Int) ≤ 47) = false := decide_eq_false (by omega)
    have l97 : decide ((m : Int) ≤ 97) = false := decide_eq_false (by omega)
    have l107 : decide ((m : Int) ≤ 107) = true := decide_eq_true (by omega)
    have e39 : ((m : Int) == 39) = false := by rw [beq_eq_false_iff_ne]; omega
    have e49 : ((m : Int) == 49) = false := by rw [beq_eq_false_iff_ne]; omega
    have z1 : (m : Int) ≤ 107 := by omega
    have z2 : 100 ≤ (m : Int) := by omega
    have ZZ := Lib.hid hh100
    have HN := Lib.hid (show ((16777216 : Int) + ((m : Int) - 92)) = ((16777216 + m - 92 : Nat) : Int) from by omega)
    clear HO h0 h1 h2 h3 h9 hh39 hh49 hh30 hh40 hh90 hh100
    go_enter Try.func66, Try.ntmps66
    go_wp2_with (go_at_call 68; refine (flag_any _ _).mono ?_; rintro e w1 ⟨rfl, hw1⟩; (rw [hw1]); clear hw1 w1)
    first | go_end0 | (simp only [Exit.inBlock, Exit.then]; refine bodyPost_ret (results_none rfl _ _ _) rfl ?_) | refine bodyPost_ret (results_none rfl _ _ _) rfl ?_
    rw [HP.out, HN.out]
    exact ⟨rfl, HOff.out.s2 _, grown_set _ _ _ _⟩
  have hl : (n < 0 ∨ n = 6) ∨ (9 < n ∧ n < 22) ∨ n = 38 ∨ n = 48 ∨ (49 < n ∧ n < 90) ∨ (97 < n ∧ n < 100) ∨ 107 < n := by omega
  rw [if_neg hh39, if_neg hh49, if_neg hh30, if_neg hh40, if_neg hh90, if_neg hh100] at e4
  subst e4
  have e39 : (n == 39) = false := by rw [beq_eq_false_iff_ne]; exact hh39
  have e49 : (n == 49) = false := by rw [beq_eq_false_iff_ne]; exact hh49
  clear HO h0 h1 h2 h3 h9 hh39 hh49 hh30 hh40 hh90 hh100 c0 c1 c2 f0 f1 f2
  rcases hl with hl | hl | hl | hl | hl | hl | hl
  · have p22 : decide (22 < n) = false := decide_eq_false (by omega)
    have p30 : decide (30 ≤ n) = false := decide_eq_false (by omega)
    have p40 : decide (40 ≤ n) = false := decide_eq_false (by omega)
    have p90 : decide (90 ≤ n) = false := decide_eq_false (by omega)
    have p100 : decide (100 ≤ n) = false := decide_eq_false (by omega)
    have l30 : decide (n < 30) = true := decide_eq_true (by omega)
    have l37 : decide (n ≤ 37) = true := decide_eq_true (by omega)
    have l47 : decide (n ≤ 47) = true := decide_eq_true (by omega)
    have l97 : decide (n ≤ 97) = true := decide_eq_true (by omega)
    have l107 : decide (n ≤ 107) = true := decide_eq_true (by omega)
    clear hl
    go_enter Try.func66, Try.ntmps66
    go_wp2_with (go_at_call 68; refine (flag_any _ _).mono ?_; rintro e w1 ⟨rfl, hw1⟩; (rw [hw1]); clear hw1 w1)
    first | go_end0 | (simp only [Exit.inBlock, Exit.then]; refine bodyPost_ret (results_none rfl _ _ _) rfl ?_) | refine bodyPost_ret (results_none rfl _ _ _) rfl ?_
    rw [HP.out]
    exact ⟨rfl, HOff.out, grown_below (Below.refl _ _) _⟩
  · have p22 : decide (22 < n) = false := decide_eq_false (by omega)
    have p30 : decide (30 ≤ n) = false := decide_eq_false (by omega)
    have p40 : decide (40 ≤ n) = false := decide_eq_false (by omega)
    have p90 : decide (90 ≤ n) = false := decide_eq_false (by omega)
    have p100 : decide (100 ≤ n) = false := decide_eq_false (by omega)
    have l30 : decide (n < 30) = true := decide_eq_true (by omega)
    have l37 : decide (n ≤ 37) = true := decide_eq_true (by omega)
    have l47 : decide (n ≤ 47) = true := decide_eq_true (by omega)
    have l97 : decide (n ≤ 97) = true := decide_eq_true (by omega)
    have l107 : decide (n ≤ 107) = true := decide_eq_true (by omega)
    clear hl
    go_enter Try.func66, Try.ntmps66
    go_wp2_with (go_at_call 68; refine (flag_any _ _).mono ?_; rintro e w1 ⟨rfl, hw1⟩; (rw [hw1]); clear hw1 w1)
    first | go_end0 | (simp only [Exit.inBlock, Exit.then]; refine bodyPost_ret (results_none rfl _ _ _) rfl ?_) | refine bodyPost_ret (results_none rfl _ _ _) rfl ?_
    rw [HP.out]
    exact ⟨rfl, HOff.out, grown_below (Below.refl _ _) _⟩
  · subst hl
    clear t0 t1 t1n t2 e39 e49
    go_enter Try.func66, Try.ntmps66
    go_wp2_with (go_at_call 68; refine (flag_any _ _).mono ?_; rintro e w1 ⟨rfl, hw1⟩; (rw [hw1]); clear hw1 w1)
    first | go_end0 | (simp only [Exit.inBlock, Exit.then]; refine bodyPost_ret (results_none rfl _ _ _) rfl ?_) | refine bodyPost_ret (results_none rfl _ _ _) rfl ?_
    rw [HP.out]
    exact ⟨rfl, HOff.out, grown_below (Below.refl _ _) _⟩
  · subst hl
    clear t0 t1 t1n t2 e39 e49
    go_enter Try.func66, Try.ntmps66
    go_wp2_with (go_at_call 68; refine (flag_any _ _).mono ?_; rintro e w1 ⟨rfl, hw1⟩; (rw [hw1]); clear hw1 w1)
    first | go_end0 | (simp only [Exit.inBlock, Exit.then]; refine bodyPost_ret (results_none rfl _ _ _) rfl ?_) | refine bodyPost_ret (results_none rfl _ _ _) rfl ?_
    rw [HP.out]
    exact ⟨rfl, HOff.out, grown_below (Below.refl _ _) _⟩
  · have p22 : decide (22 < n) = true := decide_eq_true (by omega)
    have p30 : decide (30 ≤ n) = true := decide_eq_true (by omega)
    have p40 : decide (40 ≤ n) = true := decide_eq_true (by omega)
    have p90 : decide (90 ≤ n) = false := decide_eq_false (by omega)
    have p100 : decide (100 ≤ n) = false := decide_eq_false (by omega)
    have l30 : decide (n < 30) = false := decide_eq_false (by omega)
    have l37 : decide (n ≤ 37) = false := decide_eq_false (by omega)
    have l47 : decide (n ≤ 47) = false := decide_eq_false (by omega)
    have l97 : decide (n ≤ 97) = true := decide_eq_true (by omega)
    have l107 : decide (n ≤ 107) = true := decide_eq_true (by omega)
    clear hl
    go_enter Try.func66, Try.ntmps66
    go_wp2_with (go_at_call 68; refine (flag_any _ _).mono ?_; rintro e w1 ⟨rfl, hw1⟩; (rw [hw1]); clear hw1 w1)
    first | go_end0 | (simp only [Exit.inBlock, Exit.then]; refine bodyPost_ret (results_none rfl _ _ _) rfl ?_) | refine bodyPost_ret (results_none rfl _ _ _) rfl ?_
    rw [HP.out]
    exact ⟨rfl, HOff.out, grown_below (Below.refl _ _) _⟩
  · have p22 : decide (22 < n) = true := decide_eq_true (by omega)
    have p30 : decide (30 ≤ n) = true := decide_eq_true (by omega)
    have p40 : decide (40 ≤ n) = true := decide_eq_true (by omega)
    have p90 : decide (90 ≤ n) = true := decide_eq_true (by omega)
    have p100 : decide (100 ≤ n) = false := decide_eq_false (by omega)
    have l30 : decide (n < 30) = false := decide_eq_false (by omega)
    have l37 : decide (n ≤ 37) = false := decide_eq_false (by omega)
    have l47 : decide (n ≤ 47) = false := decide_eq_false (by omega)
    have l97 : decide (n ≤ 97) = false := decide_eq_false (by omega)
    have l107 : decide (n ≤ 107) = true := decide_eq_true (by omega)
    clear hl
    go_enter Try.func66, Try.ntmps66
    go_wp2_with (go_at_call 68; refine (flag_any _ _).mono ?_; rintro e w1 ⟨rfl, hw1⟩; (rw [hw1]); clear hw1 w1)
    first | go_end0 | (simp only [Exit.inBlock, Exit.then]; refine bodyPost_ret (results_none rfl _ _ _) rfl ?_) | refine bodyPost_ret (results_none rfl _ _ _) rfl ?_
    rw [HP.out]
    exact ⟨rfl, HOff.out, grown_below (Below.refl _ _) _⟩
  · have p22 : decide (22 < n) = true := decide_eq_true (by omega)
    have p30 : decide (30 ≤ n) = true := decide_eq_true (by omega)
    have p40 : decide (40 ≤ n) = true := decide_eq_true (by omega)
    have p90 : decide (90 ≤ n) = true := decide_eq_true (by omega)
    have p100 : decide (100 ≤ n) = true := decide_eq_true (by omega)
    have l30 : decide (n < 30) = false := decide_eq_false (by omega)
    have l37 : decide (n ≤ 37) = false := decide_eq_false (by omega)
    have l47 : decide (n ≤ 47) = false := decide_eq_false (by omega)
    have l97 : decide (n ≤ 97) = false := decide_eq_false (by omega)
    have l107 : decide (n ≤ 107) = false := decide_eq_false (by omega)
    clear hl
    go_enter Try.func66, Try.ntmps66
    go_wp2_with (go_at_call 68; refine (flag_any _ _).mono ?_; rintro e w1 ⟨rfl, hw1⟩; (rw [hw1]); clear hw1 w1)
    first | go_end0 | (simp only [Exit.inBlock, Exit.then]; refine bodyPost_ret (results_none rfl _ _ _) rfl ?_) | refine bodyPost_ret (results_none rfl _ _ _) rfl ?_
    rw [HP.out]
    exact ⟨rfl, HOff.out, grown_below (Below.refl _ _) _⟩
end Go.Proofs.Ythgdbdhonhkkpaa.St
