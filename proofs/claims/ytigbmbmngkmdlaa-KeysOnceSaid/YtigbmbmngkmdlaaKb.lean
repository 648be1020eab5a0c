/-
  keys: New, Take, Count, Pending, Type, Ack; a sink's Take, Count.
-/
import Derived.Test.YtigbmbmngkmdlaaKa
import Derived.Test.YtigbmbmngkmdlaaQf
namespace Go.Proofs.Ytigbmbmngkmdlaa.Ke
open Go.RowKit Go.Proofs.Ytigbmbmngkmdlaa.L Go.Proofs.YtigbmbmngkmdlaaW.PrintWords

set_option maxHeartbeats 400000 in
theorem new_any (w : World) : Calls Try.prog 22 #[] w fun e w' => ∃ b, e = .returned (.pointer (some ⟨b, 0, none⟩)) ∧ StA b 0 [] none w' ∧ w.heap.size ≤ b ∧ Below w.heap.size w w' := by
  go_enter Try.func22, Try.ntmps22
  go_wp2
  go_ret
  exact ⟨_, rfl, ⟨0, heap_alloc_new w _, Nat.le_refl _, Kd.C_nil _ _, Ty.none_ _ _⟩, Nat.le_refl _, (Below.refl _ _).alloc (Nat.le_refl _) _⟩
set_option maxHeartbeats 400000 in
theorem sink_any (w : World) : Calls Try.prog 28 #[] w fun e w' => ∃ b, e = .returned (.pointer (some ⟨b, 0, none⟩)) ∧ Sk b 0 w' ∧ w.heap.size ≤ b ∧ Below w.heap.size w w' := by
  go_enter Try.func28, Try.ntmps28
  go_wp2
  go_ret
  exact ⟨_, rfl, heap_alloc_new w _, Nat.le_refl _, (Below.refl _ _).alloc (Nat.le_refl _) _⟩

theorem cells_of {b : Nat} {n : Int} {v : Value} {w : World} {t : TypeId} (h : w.heap[b]? = some (.cells #[.bool true, .int .u64 n, v] t (0, 0))) :
    w.cell? ⟨b, 0, none⟩ = some (.bool true) ∧ w.cell? ⟨b, 1, none⟩ = some (.int .u64 n) ∧ w.cell? ⟨b, 2, none⟩ = some v ∧ ∀ i, w.frozen? ⟨b, i, none⟩ = false := by
  refine ⟨by simp [World.cell?, h], by simp [World.cell?, h], by simp [World.cell?, h], fun i => by simp [World.frozen?, h]⟩
theorem cells_sk {b : Nat} {n : Int} {w : World} (h : Sk b n w) : w.cell? ⟨b, 0, none⟩ = some (.bool true) ∧ w.cell? ⟨b, 1, none⟩ = some (.int .u64 n) ∧ ∀ i, w.frozen? ⟨b, i, none⟩ = false := by
  have h' : w.heap[b]? = _ := h
  refine ⟨by simp [World.cell?, h'], by simp [World.cell?, h'], fun i => by simp [World.frozen?, h']⟩

theorem gr_set (w : World) (b i : Nat) (v : Value) : w.grownBy (w.setCell ⟨b, i, none⟩ v) (some b) := ⟨rfl, rfl, rfl, by simp [World.setCell], fun k _ hne => Below.heap_setCell _ _ _ _ (fun e => hne (by rw [e]))⟩
theorem gr_drew (w : World) (row : Option Nat) : w.grownBy w.drew row := ⟨rfl, rfl, rfl, Nat.le_refl _, fun _ _ _ => rfl⟩
theorem gr_but {w w1 : World} (h : w.grownBy w1 none) (row : Option Nat) : w.grownBy w1 row := ⟨h.os, h.tape, h.output, h.size, fun k hk _ => h.block k hk (by simp)⟩
theorem gr_below {w w1 : World} (h : Below w.heap.size w w1) (row : Option Nat) : w.grownBy w1 row := ⟨h.os, h.tape, h.output, h.size, fun k hk _ => h.block k hk⟩
theorem below_grown {w w1 : World} (h : w.grownBy w1 none) : Below w.heap.size w w1 := ⟨h.os, h.tape, h.output, h.size, fun k hk => h.block k hk (by simp)⟩
set_option maxHeartbeats 400000 in
theorem scount_any (b : Nat) (n : Int) (w : World) (h : Sk b n w) : Calls Try.prog 33 #[.pointer (some ⟨b, 0, none⟩)] w fun e w' => e = .returned (.int .u64 n) ∧ w' = w := by
  obtain ⟨k0, k1, _⟩ := cells_sk h
  go_enter Try.func33, Try.ntmps33
  go_wp2
  go_ret
  exact ⟨rfl, rfl⟩

set_option maxHeartbeats 800000 in
set_option maxRecDepth 100000 in
theorem count_any (b : Nat) (n : Int) (l : List Int) (w : World) (h : St b n l w) (h0 : 0 ≤ n) (h1 : n + l.length < 18446744073709551616) : Calls Try.prog 27 #[.pointer (some ⟨b, 0, none⟩)] w fun e w' => e = .returned (.int .u64 (n + l.length)) ∧ Below w.heap.size w w' := by
  obtain ⟨A, c, hb, hc, hC, hT⟩ := h
  obtain ⟨k0, k1, k2, _⟩ := cells_of hb
  have s1 : IntKind.u64.wrap (n + (l.length : Int)) = n + l.length := wraps_u64 _ (by omega) (by omega)
  have s2 : IntKind.u64.wrap (l.length : Int) = l.length := wraps_u64 _ (by omega) (by omega)
  have q1 : ∀ m : Q.GW w.drew w.heap.size none, m.w.cell? ⟨b, 1, none⟩ = some (.int .u64 n) := fun m => pw_cell_below (stay1 (stay0 w) m.below) k1
  have q2 : ∀ m : Q.GW w.drew w.heap.size none, m.w.cell? ⟨b, 2, none⟩ = some (.slice A l.length c) := fun m => pw_cell_below (stay1 (stay0 w) m.below) k2
  clear hb hC hT hc
  go_enter Try.func27, Try.ntmps27
  go_wp2_with fail
  refine Q.wp_region_segs none [([0, 1, 2, 3, 4, 5, 6, 7, 8, 9, 10, 11], none)] (by kernel_rfl) (by kernel_rfl) (by kernel_rfl) (by kernel_rfl) ?_
  dsimp only [Q.wpSegs, Q.picks, Q.pick]
  repeat (go_big_quiet_step (fail))
  refine wpQuiet_nil ?_
  refine NoPanic.normal ?_
  go_wp2
  go_ret
  exact ⟨rfl, stay0 w⟩

set_option maxHeartbeats 800000 in
set_option maxRecDepth 100000 in
theorem pending_any (b : Nat) (n : Int) (l : List Int) (w : World) (h : St b n l w) (hl : l.length ≤ 140737488355328) : Calls Try.prog 26 #[.pointer (some ⟨b, 0, none⟩)] w fun e w' => ∃ v0 : Value, e = .returned (.tuple #[.int .u64 n, v0]) ∧ (Kd.int .u8).R 5 w' w.heap.size (fun _ => True) v0 l ∧ Below w.heap.size w w' := by
  obtain ⟨A, c, hb, hc, hC, hT⟩ := h
  obtain ⟨k0, k1, k2, _⟩ := cells_of hb
  have q1 : ∀ m : Q.GW w.drew w.heap.size none, m.w.cell? ⟨b, 1, none⟩ = some (.int .u64 n) := fun m => pw_cell_below (stay1 (stay0 w) m.below) k1
  have q2 : ∀ m : Q.GW w.drew w.heap.size none, m.w.cell? ⟨b, 2, none⟩ = some (.slice A l.length c) := fun m => pw_cell_below (stay1 (stay0 w) m.below) k2
  have HC := Lib.hid (Kd.C_drew hC)
  have HL := Lib.hid hl
  clear hb hC hT hc hl
  go_enter Try.func26, Try.ntmps26
  go_wp2_with fail
  refine Q.wp_region_segs none [([0, 1, 2, 3, 4, 5, 6, 7], some 8), ([9, 10], none)] (by kernel_rfl) (by kernel_rfl) (by kernel_rfl) (by kernel_rfl) ?_
  dsimp only [Q.wpSegs, Q.picks, Q.pick]
  repeat (go_big_quiet_step (fail))
  refine wpQuiet_nil ?_
  go_wp2_with (go_at_call 61; refine (S.clone_any l A c _ HC.out HL.out).mono ?_; rintro e w3 ⟨v3, rfl, ho3, hb3⟩; (have HB3 := Lib.hid hb3); (have HO3 := Lib.hid ho3); clear hb3 ho3)
  refine Q.ev_done HB3.out (Nat.le_refl _) ?_
  clear q1 q2
  repeat (go_big_quiet_step (fail))
  refine wpQuiet_nil ?_
  refine NoPanic.normal ?_
  go_wp2
  go_ret2
  exact ⟨_, rfl, HO3.out, stay1 (stay0 w) HB3.out⟩

set_option maxHeartbeats 800000 in
set_option maxRecDepth 100000 in
theorem type_no (b : Nat) (n : Int) (l : List Int) (A2 : Option Addr) (m c2 : Nat) (w : World) (h : St b n l w) (hl : l.length ≤ 512) (hno : 512 < l.length + m) :
    Calls Try.prog 24 #[.pointer (some ⟨b, 0, none⟩), .slice A2 m c2] w fun e w' => e = .returned (.int .i64 5) ∧ w' = w := by
  obtain ⟨A, c, hb, hc, hC, hT⟩ := h
  obtain ⟨k0, k1, k2, _⟩ := cells_of hb
  have t1 : decide ((512 : Int) - (l.length : Int) < (m : Int)) = true := by simp; omega
  clear hb hC hT hc
  go_enter Try.func24, Try.ntmps24
  go_wp2
  go_ret
  exact ⟨rfl, rfl⟩
set_option maxHeartbeats 1600000 in
set_option maxRecDepth 100000 in
theorem type_yesA (b : Nat) (n : Int) (l l2 : List Int) (A A2 : Option Addr) (m c2 : Nat) (w : World) (h : StA b n l A w) (hm : l2.length = m) (hl : l.length ≤ 512) (hyes : l.length + m ≤ 512) (hC2 : (Kd.int .u8).C w A2 m l2) :
    Calls Try.prog 24 #[.pointer (some ⟨b, 0, none⟩), .slice A2 m c2] w fun e w' => e = .returned (.int .i64 0) ∧ (∃ A', StA b n (l ++ l2) A' w' ∧ Fr w A A') ∧ w.grownBy w' (some b) := by
  obtain ⟨c, hb, hc, hC, hT⟩ := h
  obtain ⟨k0, k1, k2, kf⟩ := cells_of hb
  have f2 := kf 2
  have q2 : ∀ m : Q.GW w.drew w.heap.size none, m.w.cell? ⟨b, 2, none⟩ = some (.slice A l.length c) := fun m => pw_cell_below (stay1 (stay0 w) m.below) k2
  have t1 : decide ((512 : Int) - (l.length : Int) < (m : Int)) = false := by simp; omega
  obtain ⟨i0, hi0, _⟩ := info_of info_u8
  have hcut := cut_cap (P := Try.prog) 25 5 Try.underlying25 hi0 A l.length c hc
  have HC := Lib.hid (Kd.C_drew hC)
  have HT := Lib.hid (show Ty w.drew 5 A from hT)
  have HC2 := Lib.hid (Kd.C_drew hC2)
  have HB := Lib.hid hb
  have HM := Lib.hid hm
  have HN := Lib.hid (show A = none → l.length = 0 from fun h0 => by
    rcases Nat.eq_zero_or_pos l.length with hz | hz
    · exact hz
    · obtain ⟨ad, hA, _⟩ := hC.2.2 hz
      rw [h0] at hA
      cases hA)
  clear hb hC hT hc hm hC2 kf
  go_enter Try.func24, Try.ntmps24
  go_wp2_with fail
  refine Q.wp_region_segsF none [([0, 1, 2, 3, 4, 5, 6, 7, 8, 9, 10, 11, 12, 13, 14, 15, 16], some 17)] [18, 19] 20 (by kernel_rfl) (by kernel_rfl) (by kernel_rfl) (by kernel_rfl) ?_
  dsimp only [Q.wpSegsF, Q.picks, Q.pick]
  repeat (go_big_quiet_step (fail))
  refine wpQuiet_nil ?_
  go_wp2_with (at_builtin; refine appr .u8 (.tmp 40) (.tmp 41) 25 5 1 rfl rfl Try.underlying25 info_u8 l l2 A A2 l.length m c2 rfl rfl HC.out HT.out HC2.out HN.out (by omega) (by decide) ?_; intro A1 c1 w1 hc1 hC1 hT1 hF1 hg1; (have HF1 := Lib.hid (show Fr w A A1 from hF1)); (have HC1 := Lib.hid hC1); (have HT1 := Lib.hid hT1); (have HG1 := Lib.hid hg1); (have HK1 := Lib.hid hc1); (have HB1 := Lib.hid ((hg1.block b (Array.getElem?_eq_some_iff.1 HB.out).1 (by simp)).trans HB.out)); clear hC1 hT1 hg1 hc1 hF1)
  refine Q.ev_done (below_grown HG1.out) (Nat.le_refl _) ?_
  clear q2 k0 k1 k2 f2
  repeat (go_big_quiet_step (fail))
  refine wpQuiet_nil ?_
  have r2 := (cells_of HB1.out).2.2.1
  have g2 := (cells_of HB1.out).2.2.2 2
  go_wp2
  refine NoPanic.normal ?_
  go_wp2
  go_ret
  have hll : (l ++ l2).length = l.length + m := by simp [HM.out]
  have hset := (gr_but HG1.out (some b)).trans (gr_set w1 b 2 (.slice A1 (l.length + m) c1))
  have hkeep := grown_keep (gr_set w1 b 2 (.slice A1 (l.length + m) c1)) HT1.out HB1.out (by decide)
  refine ⟨rfl, ⟨A1, ⟨c1, ?_, by rw [hll]; exact HK1.out, by rw [hll]; exact C_move HC1.out hkeep, HT1.out.move hkeep⟩, HF1.out⟩, (gr_drew w _).trans hset⟩
  have := blk_set HB1.out 2 (.slice A1 (l.length + m) c1)
  rw [hll]
  simpa using this
theorem type_yes (b : Nat) (n : Int) (l l2 : List Int) (A2 : Option Addr) (m c2 : Nat) (w : World) (h : St b n l w) (hm : l2.length = m) (hl : l.length ≤ 512) (hyes : l.length + m ≤ 512) (hC2 : (Kd.int .u8).C w A2 m l2) :
    Calls Try.prog 24 #[.pointer (some ⟨b, 0, none⟩), .slice A2 m c2] w fun e w' => e = .returned (.int .i64 0) ∧ St b n (l ++ l2) w' ∧ w.grownBy w' (some b) := by
  obtain ⟨A, hA⟩ := h
  exact (type_yesA b n l l2 A A2 m c2 w hA hm hl hyes hC2).mono fun e w' ⟨h1, ⟨A', h2, _⟩, h3⟩ => ⟨h1, ⟨A', h2⟩, h3⟩
end Go.Proofs.Ytigbmbmngkmdlaa.Ke
