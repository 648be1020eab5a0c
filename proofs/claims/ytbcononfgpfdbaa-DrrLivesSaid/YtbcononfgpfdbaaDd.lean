/-
  drr: begin; slices.Grow and slices.Concat of two rows of members.
-/
import Derived.Test.YtbcononfgpfdbaaDc
import Derived.Test.YtbcononfgpfdbaaQf
namespace Go.Proofs.Ytbcononfgpfdbaa.D
open Go.RowKit Go.Proofs.Ytbcononfgpfdbaa.L Go.Proofs.YtbcononfgpfdbaaW.PrintWords

/-- credits are small -/
def small (L : List Mem) : Prop := ∀ m ∈ L, 0 ≤ m.2 ∧ m.2 ≤ 1000000000000
set_option maxHeartbeats 1600000 in
set_option maxRecDepth 100000 in
theorem begin_any (b B : Nat) (q : Int) (L : List Mem) (w : World) (h : RG b q L B w) (hq : 0 ≤ q ∧ q ≤ 65536) (hs : small L) :
    Calls Try.prog 47 #[.pointer (some ⟨b, 0, none⟩)] w fun e w' => (∃ v, e = .returned v) ∧ RG b q (beg q L) B w' ∧ FR B w w' := by
  obtain ⟨A, c, hb, hc, hC, k0, k1, kf, hR, hB⟩ := h.opens
  cases L with
  | nil =>
    have HG := Lib.hid h
    clear hb hC hc kf hR hB h k0 hq hs
    go_enter Try.func47, Try.ntmps47
    go_wp2_with fail
    go_end0
    exact ⟨⟨_, rfl⟩, HG.out, FR.refl _ _⟩
  | cons m r =>
    obtain ⟨g, c', cs, hv, hBg, hbg, c0, c1, hset⟩ := R_head hR
    injection hv with hA hn hcc
    subst hA hcc
    have t1 : decide ((0 : Int) < ((m :: r).length : Int)) = true := decide_eq_true (by simp)
    have hm := hs m (by simp)
    have s1 : IntKind.i64.wrap (m.2 + q) = m.2 + q := IntWalk.i64_in _ (by omega)
    have fg := blk_frozen hbg 1
    have z1 : (0 : Int) < ((m :: r).length : Int) := by simp
    have q0 : ∀ m : Q.GW w.drew w.heap.size none, m.w.cell? ⟨b, 0, none⟩ = some (.int .i64 q) := fun m => pw_cell_below (stay1 (stay0 w) m.below) k0
    have q1 : ∀ x : Q.GW w.drew w.heap.size none, x.w.cell? ⟨b, 1, none⟩ = some (.slice (some ⟨g, 0, none⟩) (m :: r).length c) := fun m => pw_cell_below (stay1 (stay0 w) m.below) k1
    have q2 : ∀ x : Q.GW w.drew w.heap.size none, x.w.cell? ⟨g, 1, none⟩ = some (.int .i64 m.2) := fun m => pw_cell_below (stay1 (stay0 w) m.below) c1
    have HBk := Lib.hid hb
    have HBg := Lib.hid hbg
    have HBB := Lib.hid hB
    have HBBg := Lib.hid hBg
    have HSet := Lib.hid hset
    have hlm := (M_open hC).1
    clear hb hC hc kf hR hB h hq hs hbg hset hm hBg hn
    generalize (m :: r).length = n at *
    go_enter Try.func47, Try.ntmps47
    go_wp2_with fail
    refine Q.wp_region_segsF none [] [0, 1, 2, 3, 4, 5, 6, 7, 8, 9, 10, 11, 12, 13] 14 (by kernel_rfl) (by kernel_rfl) (by kernel_rfl) (by kernel_rfl) ?_
    dsimp only [Q.wpSegsF, Q.picks, Q.pick]
    repeat (go_big_quiet_step (fail))
    refine wpQuiet_nil ?_
    clear q0 q1 q2
    have c1' : w.drew.cell? ⟨g, 1, none⟩ = some (.int .i64 m.2) := c1
    have f1' : w.drew.frozen? ⟨g, 1, none⟩ = false := fg
    go_wp2
    refine NoPanic.normal ?_
    go_wp2
    go_end0
    have hne : b ≠ g := blk_ne HBk.out HBg.out (by decide)
    refine ⟨⟨_, rfl⟩, ⟨_, blk_far (w := w.drew) (p := ⟨g, 1, none⟩) HBk.out hne _, HBB.out, ?_⟩, (FR.drew w).trans (FR.set (w := w.drew) HBg.out HBBg.out (.inr rfl))⟩
    exact Kd.R_step (HSet.out (m.2 + q)) (fun k _ _ => rfl)
set_option maxHeartbeats 1600000 in
set_option maxRecDepth 100000 in
theorem grow_any (n : Nat) (w : World) (hn : n ≤ 1000000) :
    Calls Try.prog 62 #[.slice none 0 0, .int .i64 n] w fun e w' => ∃ v, e = .returned v ∧ kM.R tM w' w.heap.size (fun _ => True) v [] ∧ Below w.heap.size w w' := by
  rcases Nat.eq_zero_or_pos n with h0 | h0
  · subst h0
    go_enter Try.func62, Try.ntmps62
    go_wp2
    go_ret
    exact ⟨_, rfl, Kd.R_nil _ _ _ _ _, Below.refl _ _⟩
  · obtain ⟨i0, hi0, hz⟩ := Option.map_eq_some_iff.1 info_M
    simp only [Prod.mk.injEq] at hz
    obtain ⟨hz0, hz1, hz2⟩ := hz
    have hfit : Builtin.nextslicecap (0 + n) 0 * i0.bytes ≤ 281474976710656 := by
      rw [hz2]
      simp only [Builtin.nextslicecap]
      rw [if_pos (by omega)]
      omega
    have hrz := fun ty => Lib.run_append_grow_zeros (P := Try.prog) w 47 3 ty tM i0 _ .i64 .i64 Try.underlying47 Try.underlying3 hi0 hz0 none 0 0 [] (by exact run_firstCells_none w.drew i0.size 0 0 0) n h0 (by omega) (by omega) (by omega) (by rw [hz2]; omega) hfit
    have hge := grownCap_ge w (0 + n) 0 tM
    have hle := grownCap_le_maxLen w (0 + n) 0 tM (by unfold maxLen; omega)
    generalize grownCap w (0 + n) 0 tM = G at *
    have hG63 : G ≤ 9223372036854775807 := by unfold maxLen at hle; exact hle
    have t1 : decide ((n : Int) < 0) = false := decide_eq_false (by omega)
    have t2 : decide ((0 : Int) < (n : Int)) = true := decide_eq_true (by omega)
    have HE := Lib.hid hge
    have HL := Lib.hid hle
    simp only [Nat.zero_add] at hrz
    clear hge hle hfit hz0 hz1 hz2 hi0
    go_enter Try.func62, Try.ntmps62
    go_wp2_with (at_builtin; refine Lib.wpList_append_run _ rfl _ _ _ _ rfl _ _ rfl rfl _ _ (hrz _) ?_)
    go_ret
    refine ⟨_, rfl, ⟨fun _ _ => trivial, [], ⟨by simp, .inr ⟨w.heap.size, G, _, rfl, Nat.le_refl _, heap_alloc_new w.drew _, Nat.zero_le _, HL.out, ?_, by simp⟩⟩, Reps.none _ _⟩, ((Below.refl _ _).drew).alloc (Nat.le_refl _) _⟩
    have := HE.out
    show _ = G * 2
    simp [Builtin.zeroCells]
    omega
section
variable {ops : Array Oper} {rest : List Oper} {o : Oper} {a : Act} {Q : Exit → Act → World → Prop}
/-- append of members that are read -/
theorem appM {w0 W : World} (B : Nat) (s x : Operand) (hgd : o.guard = none) (ho : o.op = .call { callee := .builtin .append, args := #[s, x], argTypes := #[47, 47] })
    (v : Value) (xs ys : List Mem) (A : Option Addr) (m c : Nat) (hs : a.eval s = v) (hx : a.eval x = .slice A m c)
    (HO : kM.R tM W B (fun _ => True) v xs) (HR : kM.C W A m ys) (HB : Below B w0 W) (hB : B ≤ W.heap.size) (hl : (xs.length + m) * 16 ≤ 140737488355328)
    (h : ∀ v1 w1, kM.R tM w1 B (fun _ => True) v1 (xs ++ ys) → Below B w0 w1 → W.grownBy w1 v.ownBlock → wpList Try.prog ops Q rest (a.put o.dst v1) w1) :
    wpList Try.prog ops Q (o :: rest) a W :=
  Kd.R_append_rows kM (Rr := kM.K W) (w0 := w0) B hgd s x 47 tM (.agg #[.int .u64 0, .int .i64 0]) 16 ho Try.underlying47 info_M rfl (by show 0 < 2; decide) (by decide) v xs ys A m c (fun _ => True) (fun _ => False) hs hx HO HR (fun _ _ hk => M_cells.2 (K_cells.1 hk)) (fun _ hk => hk.elim) (fun _ _ => trivial) HB hB hl (fun v1 w1 h1 h2 h3 _ => h v1 w1 h1 h2 h3)
end
set_option maxHeartbeats 3200000 in
set_option maxRecDepth 100000 in
/-- slices.Concat of two rows -/
theorem concat_any (xs ys : List Mem) (A1 A2 : Option Addr) (c1 c2 b n1 n2 : Nat) (w : World) (hb : w.heap[b]? = some (.cells #[.slice A1 n1 c1, .slice A2 n2 c2] 47 (0, 0))) (h1 : kM.C w A1 n1 xs) (h2 : kM.C w A2 n2 ys) (hl : n1 + n2 ≤ 1000000) :
    Calls Try.prog 48 #[.slice (some ⟨b, 0, none⟩) 2 2] w fun e w' => ∃ v, e = .returned v ∧ kM.R tM w' w.heap.size (fun _ => True) v (xs ++ ys) ∧ Below w.heap.size w w' := by
  have k0 : w.cell? ⟨b, 0, none⟩ = some (.slice A1 n1 c1) := by rw [blk_cell hb]; rfl
  have k1 : w.cell? ⟨b, 1, none⟩ = some (.slice A2 n2 c2) := by rw [blk_cell hb]; rfl
  have hbl := blk_lt hb
  have H1 := Lib.hid h1
  have H2 := Lib.hid h2
  have t1 : decide ((n1 : Int) < 0) = false := decide_eq_false (by omega)
  have t2 : decide ((n1 : Int) + (n2 : Int) < 0) = false := decide_eq_false (by omega)
  have HL := Lib.hid hl
  have HG := fun (w : World) => grow_any (n1 + n2) w (by omega)
  have HG := Lib.hid HG
  have HX1 := Lib.hid (show xs.length = n1 from h1.1)
  have HX2 := Lib.hid (show ys.length = n2 from h2.1)
  have u1 : (n1 : Int) ≤ 1000000 := by omega
  have u2 : (n2 : Int) ≤ 1000000 := by omega
  clear h1 h2 hb
  go_enter Try.func48, Try.ntmps48
  go_wp2_with fail
  refine wp_loop_rounds 3 ?_
  rw [rounds_succ]
  go_wp2_with fail
  rw [rounds_succ]
  go_wp2_with fail
  rw [rounds_succ]
  go_wp2_with (go_at_call 62; refine (HG.out _).mono ?_; rintro e w1 ⟨v1, rfl, hr1, hb1⟩; (have HR1 := Lib.hid hr1); (have HB1 := Lib.hid hb1); clear hr1 hb1)
  obtain ⟨A3, c3, rfl, hc3, _⟩ := Kd.R_reads HR1.out
  have k0' := pw_cell_below HB1.out k0
  have k1' := pw_cell_below HB1.out k1
  refine wp_loop_rounds 3 ?_
  rw [rounds_succ]
  go_wp2_with (at_builtin; refine appM (w0 := w) w.heap.size (.tmp 31) (.tmp 32) rfl rfl _ [] xs A1 n1 c1 rfl rfl HR1.out (Kd.C_below H1.out HB1.out) HB1.out HB1.out.size (by have := HL.out; simp; omega) ?_; intro v2 w2 hr2 hb2 _; (have HR2 := Lib.hid hr2); (have HB2 := Lib.hid hb2); clear hr2 hb2)
  clear k0' k1' HR1
  have k1' := pw_cell_below HB2.out k1
  obtain ⟨A4, c4, rfl, hc4, _⟩ := Kd.R_reads HR2.out
  rw [rounds_succ]
  go_wp2_with (at_builtin; refine appM (w0 := w) w.heap.size (.tmp 31) (.tmp 32) rfl rfl _ ([] ++ xs) ys A2 n2 c2 rfl rfl HR2.out (Kd.C_below H2.out HB2.out) HB2.out HB2.out.size (by have := HL.out; have := HX1.out; simp; omega) ?_; intro v3 w3 hr3 hb3 _; (have HR3 := Lib.hid hr3); (have HB3 := Lib.hid hb3); clear hr3 hb3)
  rw [rounds_succ]
  go_wp2_with fail
  go_ret
  exact ⟨_, rfl, HR3.out, HB3.out⟩
end Go.Proofs.Ytbcononfgpfdbaa.D
