/-
  bitmap: has a map what the document's has?
-/
import Derived.Test.YtigbmbmngkmdlaaBj
namespace Go.Proofs.Ytigbmbmngkmdlaa.Bm
open Go.RowKit Go.Proofs.Ytigbmbmngkmdlaa.L Go.Proofs.Ytigbmbmngkmdlaa.Bt Go.Proofs.YtigbmbmngkmdlaaW.PrintWords

set_option maxHeartbeats 1600000 in
set_option maxRecDepth 100000 in
theorem same_yes (x : Nat) (l : List Bool) (A : Option Addr) (c : Nat) (w : World) (hC : Kd.bool.C w A l.length l) (hx : x < 2 ^ 64) (hh : ∀ i, i < l.length → hasB l.length x i = l.getD i false) :
    Calls Try.prog 20 #[.agg #[.int .i64 l.length, .int .u64 x], .slice A l.length c] w fun e w' => e = .returned (.bool true) ∧ Below w.heap.size w w' := by
  obtain ⟨hmx, ho⟩ := C_openb hC
  have HO := Lib.hid ho
  have HH := Lib.hid (fun (w : World) (i : Nat) (hi : i < l.length) => (has_any l.length x i w hx).mono fun e w' h => (show e = .returned (.bool (l.getD i false)) ∧ _ from ⟨h.1.trans (by rw [hh i hi]), h.2⟩))
  obtain ⟨wb, hwb, ha, hbel⟩ := mk w l.length x
  have HB := Lib.hid hbel
  have HA := Lib.hid ha
  have k0 := ha.c0
  rw [hwb] at k0
  clear ha hbel ho hC hh
  go_enter Try.func20, Try.ntmps20
  go_wp2_with fail
  rw [← hwb]
  clear hwb k0
  go_loopg [5] (l.length + 1) (fun g v5 w' => ∃ m : Nat, v5 = .int .i64 m ∧ Hid (m ≤ l.length ∧ l.length < g + m) ∧ Hid (Below wb.heap.size wb w'))
  case atStart => exact ⟨0, rfl, Lib.hid ⟨by omega, by omega⟩, Lib.hid (Below.refl _ _)⟩
  case round =>
    obtain ⟨m, rfl, HJ, HBr⟩ := hrel
    cases gk with
    | zero => have := HJ.out; omega
    | succ g =>
      obtain ⟨hj1, hj2⟩ := HJ.out
      clear HJ
      by_cases hlt : m < l.length
      · have hH := fun w => HH.out w m hlt
        rcases HO.out with e | ⟨bk, off, rfl, _, hcells⟩
        · subst e; simp at hlt
        have k2 := hcells m hlt
        generalize l.getD m false = b at hH k2
        have HH1 := Lib.hid hH
        have up : ∀ n : Q.GW wr.drew wr.heap.size none, Below wb.heap.size wb n.w := fun n => stay1 HBr.out (stay1 (stay0 wr) n.below)
        have UP := Lib.hid up
        have q0 : ∀ n : Q.GW wr.drew wr.heap.size none, n.w.cell? ⟨w.heap.size, 0, none⟩ = some (.int .i64 l.length) := fun n => (HA.out.below (UP.out n)).c0
        have q1 : ∀ n : Q.GW wr.drew wr.heap.size none, n.w.cell? ⟨w.heap.size, 1, none⟩ = some (.int .u64 x) := fun n => (HA.out.below (UP.out n)).c1
        have q2 : ∀ n : Q.GW wr.drew wr.heap.size none, n.w.cell? ⟨bk, off + m, none⟩ = some (.bool b) := fun n => pw_cell_below (stay1 HB.out (UP.out n)) k2
        clear hH k2 hcells up
        go_wp2_with fail
        refine Q.wp_region_segs none [([0, 1, 3, 4, 5, 6], some 2), ([7], none)] (by kernel_rfl) (by kernel_rfl) (by kernel_rfl) (by kernel_rfl) ?_
        dsimp only [Q.wpSegs, Q.picks, Q.pick]
        repeat (go_big_quiet_step (fail))
        refine wpQuiet_nil ?_
        go_wp2_with (go_at_call 50; refine (HH1.out _).mono ?_; rintro e w3 ⟨rfl, hb3⟩; (have HB3 := Lib.hid hb3); clear hb3)
        refine Q.ev_done HB3.out (Nat.le_refl _) ?_
        clear q0 q1 q2
        repeat (go_big_quiet_step (fail))
        refine wpQuiet_nil ?_
        refine NoPanic.normal ?_
        go_wp2
        go_roundg g
        case measure => omega
        case rel => exact ⟨m + 1, by go_num, Lib.hid ⟨by omega, by omega⟩, Lib.hid (stay1 HBr.out.drew HB3.out)⟩
      · go_wp2
        go_ret
        exact ⟨rfl, stay1 HB.out HBr.out⟩
end Go.Proofs.Ytigbmbmngkmdlaa.Bm
