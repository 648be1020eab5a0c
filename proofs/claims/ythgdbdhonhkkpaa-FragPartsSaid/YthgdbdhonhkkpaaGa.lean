/-
  frag: parts in memory; isID, Right, Count.
-/
import Derived.Test.YthgdbdhonhkkpaaVd
import Derived.Test.YthgdbdhonhkkpaaQ
import Derived.Test.YthgdbdhonhkkpaaSc
namespace Go.Proofs.Ythgdbdhonhkkpaa.Fg
open Go.RowKit Go.Proofs.Ythgdbdhonhkkpaa.L Go.Proofs.Ythgdbdhonhkkpaa.V Go.Proofs.YthgdbdhonhkkpaaW.PrintWords

/-- a part: number, index, count, data -/
abbrev Pt := Int × Int × Int × List Int
def kP : Kd Pt := Kd.pair (Kd.int .u64) (Kd.pair (Kd.int .i64) (Kd.pair (Kd.int .i64) (Kd.slice 5 (Kd.int .u8))))
def zP : Pt := (0, 0, 0, [])
theorem info_P : (Try.prog.info? 38).map (fun i => (i.zero, i.size, i.bytes)) = some (some (.agg #[.int .u64 0, .int .i64 0, .int .i64 0, .slice none 0 0]), 4, 48) := by kernel_rfl
theorem K_cells {w : World} {p : Pt} {cs : List Value} : kP.K w p cs ↔ ∃ A c, cs = [.int .u64 p.1, .int .i64 p.2.1, .int .i64 p.2.2.1, .slice A p.2.2.2.length c] ∧ p.2.2.2.length ≤ c ∧ (Kd.int .u8).C w A p.2.2.2.length p.2.2.2 := by
  constructor
  · rintro ⟨_, _, rfl, rfl, _, _, rfl, rfl, _, _, rfl, rfl, A, c, rfl, h1, h2⟩
    exact ⟨A, c, rfl, h1, h2⟩
  · rintro ⟨A, c, rfl, h1, h2⟩
    exact ⟨[_], _, rfl, rfl, [_], _, rfl, rfl, [_], _, rfl, rfl, A, c, rfl, h1, h2⟩
/-- a row of parts, laid open -/
theorem P_open {w : World} {A : Option Addr} {l : List Pt} (h : kP.C w A l.length l) :
    l.length ≤ 9223372036854775807 ∧ (l = [] ∨ ∃ b off, A = some ⟨b, off, none⟩ ∧ b < w.heap.size ∧ ∀ j, j < l.length → w.cell? ⟨b, off + j * 4, none⟩ = some (.int .u64 (l.getD j zP).1) ∧ w.cell? ⟨b, off + j * 4 + 1, none⟩ = some (.int .i64 (l.getD j zP).2.1) ∧ w.cell? ⟨b, off + j * 4 + 2, none⟩ = some (.int .i64 (l.getD j zP).2.2.1) ∧
      ∃ Aj cj, w.cell? ⟨b, off + j * 4 + 3, none⟩ = some (.slice Aj (l.getD j zP).2.2.2.length cj) ∧ (l.getD j zP).2.2.2.length ≤ cj ∧ (Kd.int .u8).C w Aj (l.getD j zP).2.2.2.length (l.getD j zP).2.2.2) := by
  refine ⟨h.2.1, ?_⟩
  rcases Nat.eq_zero_or_pos l.length with h0 | h0
  · exact .inl (List.eq_nil_of_length_eq_zero h0)
  · right
    have key : ∀ j, j < l.length → ∃ ad, A = some ad ∧ w.cell? (ad.add (j * 4 + 0)) = some (.int .u64 (l.getD j zP).1) ∧ w.cell? (ad.add (j * 4 + 1)) = some (.int .i64 (l.getD j zP).2.1) ∧ w.cell? (ad.add (j * 4 + 2)) = some (.int .i64 (l.getD j zP).2.2.1) ∧
        ∃ Aj cj, w.cell? (ad.add (j * 4 + 3)) = some (.slice Aj (l.getD j zP).2.2.2.length cj) ∧ (l.getD j zP).2.2.2.length ≤ cj ∧ (Kd.int .u8).C w Aj (l.getD j zP).2.2.2.length (l.getD j zP).2.2.2 := by
      intro j hj
      obtain ⟨ad, c, e, _, hk, hc⟩ := Kd.C_get h zP j (by omega) (by omega)
      obtain ⟨Aj, cj, hk, h1, h2⟩ := K_cells.1 hk
      subst hk
      simp only [Int.toNat_natCast] at hc
      exact ⟨ad, e, hc 0 _ rfl, hc 1 _ rfl, hc 2 _ rfl, Aj, cj, hc 3 _ rfl, h1, h2⟩
    obtain ⟨ad, e, c0, _⟩ := key 0 h0
    obtain ⟨b, off, spot⟩ := ad
    have hs : spot = none := by
      have := World.cell?_spot c0
      simpa [Addr.add] using this
    subst hs
    rw [add_at] at c0
    refine ⟨b, off, e, World.block_lt_of_cell? w ⟨b, off + (0 * 4 + 0), none⟩ c0, fun j hj => ?_⟩
    obtain ⟨ad, e', c0, c1, c2, Aj, cj, c3, h1, h2⟩ := key j hj
    rw [e] at e'
    injection e' with e'
    subst e'
    rw [add_at] at c0 c1 c2 c3
    simp only [Nat.add_zero, ← Nat.add_assoc] at c0 c1 c2 c3
    exact ⟨c0, c1, c2, Aj, cj, c3, h1, h2⟩

def idB (id : Int) : Bool := decide (1 ≤ id ∧ id ≤ 4611686018427387903)
set_option maxHeartbeats 400000 in
theorem isid_any (id : Int) (w : World) : Calls Try.prog 55 #[.int .u64 id] w fun e w' => e = .returned (.bool (idB id)) ∧ w' = w := by
  by_cases h1 : 1 ≤ id
  · have t1 : decide (1 ≤ id) = true := decide_eq_true h1
    have e : idB id = decide (id ≤ 4611686018427387903) := by unfold idB; rw [decide_eq_decide]; omega
    have He := Lib.hid e
    clear h1 e
    go_enter Try.func55, Try.ntmps55
    go_wp2
    go_ret
    exact ⟨by rw [He.out]; rfl, rfl⟩
  · have t1 : decide (1 ≤ id) = false := decide_eq_false h1
    have e : idB id = false := decide_eq_false (by omega)
    have He := Lib.hid e
    clear h1 e
    go_enter Try.func55, Try.ntmps55
    go_wp2
    go_ret
    exact ⟨by rw [He.out]; rfl, rfl⟩
def rightZ (id ix ct : Int) (n : Nat) : Bool := decide (1 ≤ id ∧ id ≤ 4611686018427387903 ∧ 1 ≤ ct ∧ ct ≤ 64 ∧ 0 ≤ ix ∧ ix < ct ∧ n ≤ 480 ∧ ((n = 0 ∧ ct = 1) ∨ (n ≠ 0 ∧ (n = 480 ∨ ix = ct - 1))))
set_option maxRecDepth 100000 in
set_option maxHeartbeats 1600000 in
theorem right_any (id ix ct : Int) (A : Option Addr) (n c : Nat) (w : World) : Calls Try.prog 27 #[.agg #[.int .u64 id, .int .i64 ix, .int .i64 ct, .slice A n c]] w fun e w' => e = .returned (.bool (rightZ id ix ct n)) ∧ Below w.heap.size w w' := by
  by_cases hg0 : ¬ (1 ≤ id ∧ id ≤ 4611686018427387903)
  · have e : rightZ id ix ct n = false := decide_eq_false (by omega)
    have He := Lib.hid e
    have t0 : idB id = false := decide_eq_false hg0
    clear e hg0
    go_enter Try.func27, Try.ntmps27
    go_wp2_with (go_at_call 55; refine (isid_any id _).mono ?_; rintro e w1 ⟨rfl, hw1⟩; (rw [hw1]); clear hw1 w1)
    go_ret
    exact ⟨by rw [He.out]; rfl, (Below.refl _ _).alloc (Nat.le_refl _) _⟩
  have t0 : idB id = true := decide_eq_true (Classical.not_not.1 hg0)
  by_cases hg1 : ct < 1
  · have e : rightZ id ix ct n = false := decide_eq_false (by omega)
    have He := Lib.hid e
    have t1 : decide (ct < 1) = true := decide_eq_true (by omega)
    clear e hg0 hg1
    go_enter Try.func27, Try.ntmps27
    go_wp2_with (go_at_call 55; refine (isid_any id _).mono ?_; rintro e w1 ⟨rfl, hw1⟩; (rw [hw1]); clear hw1 w1)
    go_ret
    exact ⟨by rw [He.out]; rfl, (Below.refl _ _).alloc (Nat.le_refl _) _⟩
  have t1 : decide (ct < 1) = false := decide_eq_false (by omega)
  by_cases hg2 : 64 < ct
  · have e : rightZ id ix ct n = false := decide_eq_false (by omega)
    have He := Lib.hid e
    have t2 : decide (64 < ct) = true := decide_eq_true (by omega)
    clear e hg0 hg1 hg2
    go_enter Try.func27, Try.ntmps27
    go_wp2_with (go_at_call 55; refine (isid_any id _).mono ?_; rintro e w1 ⟨rfl, hw1⟩; (rw [hw1]); clear hw1 w1)
    go_ret
    exact ⟨by rw [He.out]; rfl, (Below.refl _ _).alloc (Nat.le_refl _) _⟩
  have t2 : decide (64 < ct) = false := decide_eq_false (by omega)
  by_cases hg3 : ix < 0
  · have e : rightZ id ix ct n = false := decide_eq_false (by omega)
    have He := Lib.hid e
    have t3 : decide (ix < 0) = true := decide_eq_true (by omega)
    clear e hg0 hg1 hg2 hg3
    go_enter Try.func27, Try.ntmps27
    go_wp2_with (go_at_call 55; refine (isid_any id _).mono ?_; rintro e w1 ⟨rfl, hw1⟩; (rw [hw1]); clear hw1 w1)
    go_ret
    exact ⟨by rw [He.out]; rfl, (Below.refl _ _).alloc (Nat.le_refl _) _⟩
  have t3 : decide (ix < 0) = false := decide_eq_false (by omega)
  by_cases hg4 : ct ≤ ix
  · have e : rightZ id ix ct n = false := decide_eq_false (by omega)
    have He := Lib.hid e
    have t4 : decide (ct ≤ ix) = true := decide_eq_true (by omega)
    clear e hg0 hg1 hg2 hg3 hg4
    go_enter Try.func27, Try.ntmps27
    go_wp2_with (go_at_call 55; refine (isid_any id _).mono ?_; rintro e w1 ⟨rfl, hw1⟩; (rw [hw1]); clear hw1 w1)
    go_ret
    exact ⟨by rw [He.out]; rfl, (Below.refl _ _).alloc (Nat.le_refl _) _⟩
  have t4 : decide (ct ≤ ix) = false := decide_eq_false (by omega)
  by_cases hg5 : 480 < n
  · have e : rightZ id ix ct n = false := decide_eq_false (by omega)
    have He := Lib.hid e
    have t5 : decide ((480 : Int) < (n : Int)) = true := decide_eq_true (by omega)
    have t5n : decide (480 < n) = true := decide_eq_true (by omega)
    clear e hg0 hg1 hg2 hg3 hg4 hg5
    go_enter Try.func27, Try.ntmps27
    go_wp2_with (go_at_call 55; refine (isid_any id _).mono ?_; rintro e w1 ⟨rfl, hw1⟩; (rw [hw1]); clear hw1 w1)
    go_ret
    exact ⟨by rw [He.out]; rfl, (Below.refl _ _).alloc (Nat.le_refl _) _⟩
  have t5 : decide ((480 : Int) < (n : Int)) = false := decide_eq_false (by omega)
  have t5n : decide (480 < n) = false := decide_eq_false (by omega)
  have z1 : 1 ≤ ct := by omega
  have z2 : ct ≤ 64 := by omega
  by_cases h0 : n = 0
  · subst h0
    have e : rightZ id ix ct 0 = (ct == 1) := by unfold rightZ; rw [show (ct == 1) = decide (ct = 1) from rfl, decide_eq_decide]; omega
    have He := Lib.hid e
    clear e t5 t5n hg0 hg1 hg2 hg3 hg4 hg5
    go_enter Try.func27, Try.ntmps27
    go_wp2_with (go_at_call 55; refine (isid_any id _).mono ?_; rintro e w1 ⟨rfl, hw1⟩; (rw [hw1]); clear hw1 w1)
    go_ret
    exact ⟨by rw [He.out]; rfl, (Below.refl _ _).alloc (Nat.le_refl _) _⟩
  have t6 : ((n : Int) == 0) = false := by rw [beq_eq_false_iff_ne]; omega
  have t6n : (n == 0) = false := by rw [beq_eq_false_iff_ne]; omega
  by_cases h1 : n = 480
  · subst h1
    have e : rightZ id ix ct 480 = true := decide_eq_true (by omega)
    have He := Lib.hid e
    clear e t5 t5n t6 t6n h0 hg0 hg1 hg2 hg3 hg4 hg5
    go_enter Try.func27, Try.ntmps27
    go_wp2_with (go_at_call 55; refine (isid_any id _).mono ?_; rintro e w1 ⟨rfl, hw1⟩; (rw [hw1]); clear hw1 w1)
    go_ret
    exact ⟨by rw [He.out]; rfl, (Below.refl _ _).alloc (Nat.le_refl _) _⟩
  have t7 : ((n : Int) == 480) = false := by rw [beq_eq_false_iff_ne]; omega
  have t7n : (n == 480) = false := by rw [beq_eq_false_iff_ne]; omega
  have e : rightZ id ix ct n = (ix == ct - 1) := by unfold rightZ; rw [show (ix == ct - 1) = decide (ix = ct - 1) from rfl, decide_eq_decide]; omega
  have He := Lib.hid e
  clear e h0 h1 hg0 hg1 hg2 hg3 hg4 hg5
  go_enter Try.func27, Try.ntmps27
  go_wp2_with (go_at_call 55; refine (isid_any id _).mono ?_; rintro e w1 ⟨rfl, hw1⟩; (rw [hw1]); clear hw1 w1)
  go_ret
  exact ⟨by rw [He.out]; rfl, (Below.refl _ _).alloc (Nat.le_refl _) _⟩
def countZ (n : Int) : Int := if n < 0 ∨ 24000 < n then 0 else if n ≤ 480 then 1 else (n + 479) / 480
set_option maxRecDepth 100000 in
set_option maxHeartbeats 800000 in
theorem count_any (n : Int) (w : World) : Calls Try.prog 23 #[.int .i64 n] w fun e w' => e = .returned (.int .i64 (countZ n)) ∧ w' = w := by
  by_cases h0 : n < 0
  · have He := Lib.hid (show countZ n = 0 from if_pos (.inl h0))
    have t0 : decide (n < 0) = true := decide_eq_true h0
    clear h0
    go_enter Try.func23, Try.ntmps23
    go_wp2
    go_ret
    exact ⟨by rw [He.out]; rfl, rfl⟩
  have t0 : decide (n < 0) = false := decide_eq_false h0
  by_cases h1 : 24000 < n
  · have He := Lib.hid (show countZ n = 0 from if_pos (.inr h1))
    have t1 : decide (24000 < n) = true := decide_eq_true h1
    clear h0 h1
    go_enter Try.func23, Try.ntmps23
    go_wp2
    go_ret
    exact ⟨by rw [He.out]; rfl, rfl⟩
  have t1 : decide (24000 < n) = false := decide_eq_false h1
  obtain ⟨m, rfl⟩ : ∃ m : Nat, n = (m : Int) := ⟨n.toNat, by omega⟩
  have z1 : (m : Int) ≤ 24000 := by omega
  have z2 : (0 : Int) ≤ (m : Int) := by omega
  have He := Lib.hid (show countZ (m : Int) = if (m : Int) ≤ 480 then 1 else ((m : Int) + 479) / 480 from if_neg (by omega))
  clear h0 h1
  go_enter Try.func23, Try.ntmps23
  go_wp2
  all_goals
    go_ret
    refine ⟨?_, rfl⟩
    rw [He.out]
    refine congrArg (fun z : Int => Ending.returned (Value.int .i64 z)) ?_
    split <;> omega
end Go.Proofs.Ythgdbdhonhkkpaa.Fg
