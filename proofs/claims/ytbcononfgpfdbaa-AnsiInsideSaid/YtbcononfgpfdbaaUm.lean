/-
  ansi: AnsiSame.
-/
import Derived.Test.YtbcononfgpfdbaaUl
namespace Go.Proofs.Ytbcononfgpfdbaa.An
open Go.RowKit Go.Proofs.Ytbcononfgpfdbaa.L Go.Proofs.Ytbcononfgpfdbaa.N Go.Proofs.YtbcononfgpfdbaaW.PrintWords

/-- a quiet load of a whole object, of an operation that has a guard -/
theorem quiet_loadG {P : Program} {ops : Array Oper} {C : World → Prop} {K : Act → Prop} {a : Act} {o : Oper} {rest : List Oper} (t : TypeId) (p : Operand) (x v : Value) (hw : Region.wanted o (yielded ops a.tmps) = true) (ho : o.op = .load t p) (hp : a.eval p = x)
    (hl : ∀ w, C w → (Instr.loadAt t x).run P w = .ok v w) (h : wpQuiet P ops C K rest (a.put o.dst v)) : wpQuiet P ops C K (o :: rest) a := by
  refine wpQuiet_step fun K' hK => ?_
  rw [if_pos hw]
  refine ⟨v, fun w hw => ?_, hK _ h⟩
  unfold Oper.quietAt
  have he : (execOp a.eval o).run P w = .ok (.value v) w := by
    simp only [execOp, ho, hp, Sem.run_bind, hl w hw, Result.andThen]
    rfl
  rw [he]
  exact ⟨rfl, rfl⟩
theorem ev_loadQ {W : World} {b B : Nat} {cs : Array Value} (h : W.heap[b]? = some (.cells cs tE (0, 0))) (hs : cs.size = 7) (hb : b < B) : ∀ w', (∃ m : Q.GW W B none, w' = m.w) → (Instr.loadAt tE (.pointer (some ⟨b, 0, none⟩))).run Try.prog w' = .ok (.agg cs) w' := by
  rintro w' ⟨m, rfl⟩
  have hm := (m.h.block b hb (by simp)).trans h
  have := run_loadVar_row (P := Try.prog) m.w b tE tE cs (0, 0) _ hm Try.underlying67 rfl (by rw [hs]; kernel_rfl)
  simp only [Instr.loadAt, Instr.sureAddr, Sem.run_bind, Sem.run_pure, this, Result.andThen]
set_option maxRecDepth 100000 in
set_option maxHeartbeats 6400000 in
theorem same_walk (a b : Ev) (A1 A2 : Option Addr) (c1 c2 : Nat) (w : World) (h1 : (Kd.int .i64).C w A1 a.2.2.2.2.2.1.length a.2.2.2.2.2.1) (h2 : (Kd.int .i64).C w A2 b.2.2.2.2.2.1.length b.2.2.2.2.2.1) :
    Calls Try.prog 7 #[.agg (evA a A1 c1), .agg (evA b A2 c2)] w fun e w' => e = .returned (.bool true) ∧ Below w.heap.size w w' := by
  have HSm := Lib.hid (fun W (hb : Below w.heap.size w W) => same_any a b A1 A2 c1 c2 W (Kd.C_below h1 hb) (Kd.C_below h2 hb))
  have HEq := Lib.hid (fun W (hb : Below w.heap.size w W) => equal_any a b A1 A2 c1 c2 W (Kd.C_below h1 hb) (Kd.C_below h2 hb))
  have HA1 := Lib.hid (fun W => as_any a A1 c1 W)
  have HA2 := Lib.hid (fun W => as_any b A2 c2 W)
  obtain ⟨a0, a1, a2, a3, a4, l, s⟩ := a
  obtain ⟨b0, b1, b2, b3, b4, m, t⟩ := b
  generalize eqE (a0, a1, a2, a3, a4, l, s) (b0, b1, b2, b3, b4, m, t) = E at *
  have HSm := Lib.hid (show ∀ W, Below w.heap.size w W → Calls Try.prog 36 #[.agg #[.int .i64 a0, .int .i32 a1, .int .u8 a2, .int .u8 a3, .int .u8 a4, .slice A1 l.length c1, .string s], .agg #[.int .i64 b0, .int .i32 b1, .int .u8 b2, .int .u8 b3, .int .u8 b4, .slice A2 m.length c2, .string t]] W fun e w' => e = .returned (.bool E) ∧ Below W.heap.size W w' from HSm.out)
  have HEq := Lib.hid (show ∀ W, Below w.heap.size w W → Calls Try.prog 34 #[.agg #[.int .i64 a0, .int .i32 a1, .int .u8 a2, .int .u8 a3, .int .u8 a4, .slice A1 l.length c1, .string s], .agg #[.int .i64 b0, .int .i32 b1, .int .u8 b2, .int .u8 b3, .int .u8 b4, .slice A2 m.length c2, .string t]] W fun e w' => e = .returned (.bool E) ∧ Below W.heap.size W w' from HEq.out)
  have HA1 := Lib.hid (show ∀ W, Calls Try.prog 35 #[.agg #[.int .i64 a0, .int .i32 a1, .int .u8 a2, .int .u8 a3, .int .u8 a4, .slice A1 l.length c1, .string s]] W fun e w' => e = .returned (.agg #[.int .i64 a0, .int .i32 a1, .int .u8 a2, .int .u8 a3, .int .u8 a4, .slice A1 l.length c1, .string s]) ∧ Below W.heap.size W w' from HA1.out)
  have HA2 := Lib.hid (show ∀ W, Calls Try.prog 35 #[.agg #[.int .i64 b0, .int .i32 b1, .int .u8 b2, .int .u8 b3, .int .u8 b4, .slice A2 m.length c2, .string t]] W fun e w' => e = .returned (.agg #[.int .i64 b0, .int .i32 b1, .int .u8 b2, .int .u8 b3, .int .u8 b4, .slice A2 m.length c2, .string t]) ∧ Below W.heap.size W w' from HA2.out)
  rename_i HSm0 HEq0 HA10 HA20
  clear HSm0 HEq0 HA10 HA20
  show Calls Try.prog _ #[.agg #[.int .i64 a0, .int .i32 a1, .int .u8 a2, .int .u8 a3, .int .u8 a4, .slice A1 l.length c1, .string s], .agg #[.int .i64 b0, .int .i32 b1, .int .u8 b2, .int .u8 b3, .int .u8 b4, .slice A2 m.length c2, .string t]] _ _
  clear h1 h2
  obtain ⟨L1, hL1⟩ : ∃ L, l.length = L := ⟨_, rfl⟩
  obtain ⟨L2, hL2⟩ : ∃ L, m.length = L := ⟨_, rfl⟩
  rw [hL1] at HSm HEq HA1 ⊢
  rw [hL2] at HSm HEq HA2 ⊢
  clear hL1 hL2
  by_cases hg0 : 50 < L1
  · have tg0 : decide ((50 : Int) < (L1 : Int)) = true := decide_eq_true (by omega)
    have tn0 : decide (50 < L1) = true := decide_eq_true (by omega)
    clear HSm HEq HA1 HA2 hg0
    go_enter Try.func7, Try.ntmps7
    go_wp2_with fail
    refine (alive_any _).mono ?_
    rintro e w3 ⟨rfl, hb⟩
    go_wp2_with fail
    go_ret
    exact ⟨rfl, below2 hb⟩
  have tg0 : decide ((50 : Int) < (L1 : Int)) = false := decide_eq_false (by omega)
  have tn0 : decide (50 < L1) = false := decide_eq_false (by omega)
  by_cases hg1 : 50 < L2
  · have tg1 : decide ((50 : Int) < (L2 : Int)) = true := decide_eq_true (by omega)
    have tn1 : decide (50 < L2) = true := decide_eq_true (by omega)
    clear HSm HEq HA1 HA2 hg0 hg1
    go_enter Try.func7, Try.ntmps7
    go_wp2_with fail
    refine (alive_any _).mono ?_
    rintro e w3 ⟨rfl, hb⟩
    go_wp2_with fail
    go_ret
    exact ⟨rfl, below2 hb⟩
  have tg1 : decide ((50 : Int) < (L2 : Int)) = false := decide_eq_false (by omega)
  have tn1 : decide (50 < L2) = false := decide_eq_false (by omega)
  by_cases hg2 : 500 < s.size
  · have tg2 : decide ((500 : Int) < (s.size : Int)) = true := decide_eq_true (by omega)
    have tn2 : decide (500 < s.size) = true := decide_eq_true (by omega)
    clear HSm HEq HA1 HA2 hg0 hg1 hg2
    go_enter Try.func7, Try.ntmps7
    go_wp2_with fail
    refine (alive_any _).mono ?_
    rintro e w3 ⟨rfl, hb⟩
    go_wp2_with fail
    go_ret
    exact ⟨rfl, below2 hb⟩
  have tg2 : decide ((500 : Int) < (s.size : Int)) = false := decide_eq_false (by omega)
  have tn2 : decide (500 < s.size) = false := decide_eq_false (by omega)
  by_cases hg3 : 500 < t.size
  · have tg3 : decide ((500 : Int) < (t.size : Int)) = true := decide_eq_true (by omega)
    have tn3 : decide (500 < t.size) = true := decide_eq_true (by omega)
    clear HSm HEq HA1 HA2 hg0 hg1 hg2 hg3
    go_enter Try.func7, Try.ntmps7
    go_wp2_with fail
    refine (alive_any _).mono ?_
    rintro e w3 ⟨rfl, hb⟩
    go_wp2_with fail
    go_ret
    exact ⟨rfl, below2 hb⟩
  have tg3 : decide ((500 : Int) < (t.size : Int)) = false := decide_eq_false (by omega)
  have tn3 : decide (500 < t.size) = false := decide_eq_false (by omega)
  clear hg0 hg1 hg2 hg3
  go_enter Try.func7, Try.ntmps7
  go_upto_region 3 with (fail)
  refine wp_at fun W hW => ?_
  have HB0 := Lib.hid (show Below w.heap.size w W from by rw [hW]; exact ((Below.refl _ _).alloc (Nat.le_refl _) _).alloc (by simp) _)
  obtain ⟨W1, hW1⟩ : ∃ W1, W1 = w.alloc (.cells #[.int .i64 a0, .int .i32 a1, .int .u8 a2, .int .u8 a3, .int .u8 a4, .slice A1 L1 c1, .string s] tE) := ⟨_, rfl⟩
  have hW2 : W = W1.alloc (.cells #[.int .i64 b0, .int .i32 b1, .int .u8 b2, .int .u8 b3, .int .u8 b4, .slice A2 L2 c2, .string t] tE) := by rw [hW1]; exact hW
  have hs1 : W1.heap.size = w.heap.size + 1 := by rw [hW1]; simp
  have k1 : W.heap[w.heap.size]? = some (.cells #[.int .i64 a0, .int .i32 a1, .int .u8 a2, .int .u8 a3, .int .u8 a4, .slice A1 L1 c1, .string s] tE (0, 0)) := by
    rw [hW2]
    exact blk_below (hW1 ▸ heap_alloc_new w _) ((Below.refl _ _).alloc (Nat.le_refl _) _)
  have k2 : W.heap[w.heap.size + 1]? = some (.cells #[.int .i64 b0, .int .i32 b1, .int .u8 b2, .int .u8 b3, .int .u8 b4, .slice A2 L2 c2, .string t] tE (0, 0)) := by
    rw [hW2, ← hs1]
    exact heap_alloc_new W1 _
  have HK1 := Lib.hid k1
  have HK2 := Lib.hid k2
  clear hW hW1 hW2 hs1 k1 k2
  refine Q.wp_region_segs none [([], some 0), ([1, 2, 3, 5, 7], some 4), ([], some 6), ([], some 8), ([], some 9), ([10, 11, 12], none)] (by kernel_rfl) (by kernel_rfl) (by kernel_rfl) (by kernel_rfl) ?_
  dsimp only [Q.wpSegs, Q.picks, Q.pick]
  refine wpQuiet_nil ?_
  go_wp2_with fail
  refine (alive_any _).mono ?_
  rintro e w3 ⟨rfl, hb3⟩
  have hb := (stay0 W).trans hb3
  have HK13 := Lib.hid (blk_below HK1.out hb)
  have HK23 := Lib.hid (blk_below HK2.out hb)
  have HB3 := Lib.hid (HB0.out.trans (hb.mono HB0.out.size))
  have HBn := Lib.hid hb3
  clear hb hb3 HK1 HK2 HB0
  go_wp2_with fail
  refine Q.ev_done HBn.out (Nat.le_refl _) ?_
  clear HBn
  repeat (go_big_quiet_step (fail))
  refine quiet_loadG tE (.tmp 2) (.pointer (some ⟨w.heap.size, 0, none⟩)) (.agg #[.int .i64 a0, .int .i32 a1, .int .u8 a2, .int .u8 a3, .int .u8 a4, .slice A1 L1 c1, .string s]) rfl rfl rfl (ev_loadQ HK13.out rfl (blk_lt HK13.out)) ?_
  go_simp
  refine quiet_loadG tE (.tmp 3) (.pointer (some ⟨w.heap.size + 1, 0, none⟩)) (.agg #[.int .i64 b0, .int .i32 b1, .int .u8 b2, .int .u8 b3, .int .u8 b4, .slice A2 L2 c2, .string t]) rfl rfl rfl (ev_loadQ HK23.out rfl (blk_lt HK23.out)) ?_
  go_simp
  refine quiet_loadG tE (.tmp 2) (.pointer (some ⟨w.heap.size, 0, none⟩)) (.agg #[.int .i64 a0, .int .i32 a1, .int .u8 a2, .int .u8 a3, .int .u8 a4, .slice A1 L1 c1, .string s]) rfl rfl rfl (ev_loadQ HK13.out rfl (blk_lt HK13.out)) ?_
  go_simp
  refine quiet_loadG tE (.tmp 3) (.pointer (some ⟨w.heap.size + 1, 0, none⟩)) (.agg #[.int .i64 b0, .int .i32 b1, .int .u8 b2, .int .u8 b3, .int .u8 b4, .slice A2 L2 c2, .string t]) rfl rfl rfl (ev_loadQ HK23.out rfl (blk_lt HK23.out)) ?_
  go_simp
  refine wpQuiet_nil ?_
  go_wp2_with fail
  refine (HSm.out w3 HB3.out).mono ?_
  rintro e w4 ⟨rfl, hb4⟩
  have HB4 := Lib.hid (HB3.out.trans (hb4.mono HB3.out.size))
  have HBn := Lib.hid hb4
  clear hb4 HB3
  go_wp2_with fail
  refine Q.ev_done HBn.out (Nat.le_refl _) ?_
  clear HBn
  refine wpQuiet_nil ?_
  go_wp2_with fail
  refine (HA1.out w4).mono ?_
  rintro e w5 ⟨rfl, hb5⟩
  have HB5 := Lib.hid (HB4.out.trans (hb5.mono HB4.out.size))
  have HBn := Lib.hid hb5
  clear hb5 HB4
  go_wp2_with fail
  refine Q.ev_done HBn.out (Nat.le_refl _) ?_
  clear HBn
  refine wpQuiet_nil ?_
  go_wp2_with fail
  refine (HA2.out w5).mono ?_
  rintro e w6 ⟨rfl, hb6⟩
  have HB6 := Lib.hid (HB5.out.trans (hb6.mono HB5.out.size))
  have HBn := Lib.hid hb6
  clear hb6 HB5
  go_wp2_with fail
  refine Q.ev_done HBn.out (Nat.le_refl _) ?_
  clear HBn
  refine wpQuiet_nil ?_
  go_wp2_with fail
  refine (HEq.out w6 HB6.out).mono ?_
  rintro e w7 ⟨rfl, hb7⟩
  have HB7 := Lib.hid (HB6.out.trans (hb7.mono HB6.out.size))
  have HBn := Lib.hid hb7
  clear hb7 HB6
  go_wp2_with fail
  refine Q.ev_done HBn.out (Nat.le_refl _) ?_
  clear HBn
  repeat (go_big_quiet_step (fail))
  refine wpQuiet_nil ?_
  refine NoPanic.normal ?_
  go_wp2_with fail
  go_ret
  exact ⟨rfl, HB7.out⟩
end Go.Proofs.Ytbcononfgpfdbaa.An
