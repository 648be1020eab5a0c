/-
  Parts of one proof, joined: aes: double, RotateLeft8, affine, boxes, Box. | aes: a cipher in memory; sync.Once, one goroutine (the pointers' types by number). | aes: the round keys, in plain Lean; what a filled cipher holds. | aes: fill. | aes: Once, ready, Turns, the counter. | aes: New, mix, Words. | aes: Turn, in plain Lean. | aes: unlike blocks are turned to unlike ones, in plain Lean. | ctr: in plain Lean.
-/
import Derived.Test.YtblnclooobggnaaZB0
import Derived.Defers
import Derived.Laws.Pointers
import Derived.Laws.LoneSync
import Derived.RegionTactic
import Derived.RegionCalls
import Derived.Tactics2
import Derived.Deep.MidRow
import Derived.Laws.CopyOwn

namespace Go.Proofs.Ytblnclooobggnaa.A
open Go.RowKit Go.Proofs.Ytblnclooobggnaa.L Go.Proofs.Ytblnclooobggnaa.N Go.Proofs.YtblnclooobggnaaW.PrintWords

theorem and128 : ∀ b, b < 256 → b &&& 128 = if 128 ≤ b then 128 else 0 := by decide +kernel
theorem and8_128 (b : Nat) (h : b < 256) : bits .and .u8 (b : Int) 128 = ((if 128 ≤ b then 128 else 0 : Nat) : Int) := by
  have := u8_and_nat b 128 h (by decide)
  rw [and128 b h] at this
  exact this
set_option maxRecDepth 100000 in
theorem double_any (b : Nat) (w : World) (h : b < 256) : Calls Try.prog 57 #[.int .u8 (b : Int)] w fun e w' => e = .returned (.int .u8 (dbl b : Nat)) ∧ w' = w := by
  have ha0 := and8_128 b h
  by_cases h1 : 128 ≤ b
  · rw [if_pos h1] at ha0
    have ha : bits .and .u8 (b : Int) 128 = 128 := ha0
    have hx : bits .xor .u8 ((b : Int) * 2 % 256) 27 = ((dbl b : Nat) : Int) := by
      have := xor_u8 (2 * b % 256) 27 (Nat.mod_lt _ (by decide)) (by decide)
      rw [show dbl b = (2 * b % 256) ^^^ 27 from if_pos h1, show (b : Int) * 2 % 256 = ((2 * b % 256 : Nat) : Int) from by omega]
      exact this
    clear h1 ha0
    go_enter Try.func57, Try.ntmps57
    go_wp2_with fail
    go_ret
    exact ⟨rfl, rfl⟩
  · rw [if_neg h1] at ha0
    have ha : bits .and .u8 (b : Int) 128 = 0 := ha0
    have HE := Lib.hid (show (b : Int) * 2 = ((dbl b : Nat) : Int) from by rw [show dbl b = 2 * b from if_neg h1]; omega)
    have z1 : (b : Int) < 128 := by omega
    clear h1 ha0
    go_enter Try.func57, Try.ntmps57
    go_wp2_with fail
    go_ret
    exact ⟨by rw [← HE.out]; rfl, rfl⟩
theorem rl_or1 : ∀ v, v < 256 → (v * 2 % 256) ||| (v / 128) = rl v 1 := by decide +kernel
set_option maxRecDepth 100000 in
theorem rot1 (v : Nat) (w : World) (h : v < 256) : Calls Try.prog 73 #[.int .u8 (v : Int), .int .i64 1] w fun e w' => e = .returned (.int .u8 (rl v 1 : Nat)) ∧ w' = w := by
  have ho : bits .or .u8 ((v : Int) * 2 % 256) ((v : Int) / 128) = ((rl v 1 : Nat) : Int) := by
    have := or_u8 (v * 2 % 256) (v / 128) (Nat.mod_lt _ (by decide)) (by omega)
    rw [rl_or1 v h] at this
    exact this
  have r0 : bits BinOp.and IntKind.u64 1 7 = 1 := by kernel_rfl
  go_enter Try.func73, Try.ntmps73
  go_wp2_with fail
  go_ret
  exact ⟨rfl, rfl⟩
theorem rl_or2 : ∀ v, v < 256 → (v * 4 % 256) ||| (v / 64) = rl v 2 := by decide +kernel
set_option maxRecDepth 100000 in
theorem rot2 (v : Nat) (w : World) (h : v < 256) : Calls Try.prog 73 #[.int .u8 (v : Int), .int .i64 2] w fun e w' => e = .returned (.int .u8 (rl v 2 : Nat)) ∧ w' = w := by
  have ho : bits .or .u8 ((v : Int) * 4 % 256) ((v : Int) / 64) = ((rl v 2 : Nat) : Int) := by
    have := or_u8 (v * 4 % 256) (v / 64) (Nat.mod_lt _ (by decide)) (by omega)
    rw [rl_or2 v h] at this
    exact this
  have r0 : bits BinOp.and IntKind.u64 2 7 = 2 := by kernel_rfl
  go_enter Try.func73, Try.ntmps73
  go_wp2_with fail
  go_ret
  exact ⟨rfl, rfl⟩
theorem rl_or3 : ∀ v, v < 256 → (v * 8 % 256) ||| (v / 32) = rl v 3 := by decide +kernel
set_option maxRecDepth 100000 in
theorem rot3 (v : Nat) (w : World) (h : v < 256) : Calls Try.prog 73 #[.int .u8 (v : Int), .int .i64 3] w fun e w' => e = .returned (.int .u8 (rl v 3 : Nat)) ∧ w' = w := by
  have ho : bits .or .u8 ((v : Int) * 8 % 256) ((v : Int) / 32) = ((rl v 3 : Nat) : Int) := by
    have := or_u8 (v * 8 % 256) (v / 32) (Nat.mod_lt _ (by decide)) (by omega)
    rw [rl_or3 v h] at this
    exact this
  have r0 : bits BinOp.and IntKind.u64 3 7 = 3 := by kernel_rfl
  go_enter Try.func73, Try.ntmps73
  go_wp2_with fail
  go_ret
  exact ⟨rfl, rfl⟩
theorem rl_or4 : ∀ v, v < 256 → (v * 16 % 256) ||| (v / 16) = rl v 4 := by decide +kernel
set_option maxRecDepth 100000 in
theorem rot4 (v : Nat) (w : World) (h : v < 256) : Calls Try.prog 73 #[.int .u8 (v : Int), .int .i64 4] w fun e w' => e = .returned (.int .u8 (rl v 4 : Nat)) ∧ w' = w := by
  have ho : bits .or .u8 ((v : Int) * 16 % 256) ((v : Int) / 16) = ((rl v 4 : Nat) : Int) := by
    have := or_u8 (v * 16 % 256) (v / 16) (Nat.mod_lt _ (by decide)) (by omega)
    rw [rl_or4 v h] at this
    exact this
  have r0 : bits BinOp.and IntKind.u64 4 7 = 4 := by kernel_rfl
  go_enter Try.func73, Try.ntmps73
  go_wp2_with fail
  go_ret
  exact ⟨rfl, rfl⟩
theorem xor8n (a b : Nat) (ha : a < 256) (hb : b < 256) : bits .xor .u8 (a : Int) (b : Int) = ((a ^^^ b : Nat) : Int) := xor_u8 a b ha hb
set_option maxRecDepth 100000 in
set_option maxHeartbeats 1600000 in
theorem affine_any (v : Nat) (w : World) (h : v < 256) : Calls Try.prog 56 #[.int .u8 (v : Int)] w fun e w' => e = .returned (.int .u8 (aff v : Nat)) ∧ w' = w := by
  have l1 := rl_lt h (n := 1) (by decide) (by decide)
  have l2 := rl_lt h (n := 2) (by decide) (by decide)
  have l3 := rl_lt h (n := 3) (by decide) (by decide)
  have l4 := rl_lt h (n := 4) (by decide) (by decide)
  have x0 : bits .xor .u8 (v : Int) 99 = ((v ^^^ 99 : Nat) : Int) := xor8n v 99 h (by decide)
  have y0 : v ^^^ 99 < 256 := xor8 h (by decide)
  have x1 := xor8n _ _ y0 l1
  have y1 := xor8 y0 l1
  have x2 := xor8n _ _ y1 l2
  have y2 := xor8 y1 l2
  have x3 := xor8n _ _ y2 l3
  have y3 := xor8 y2 l3
  have x4 := xor8n _ _ y3 l4
  have HE := Lib.hid (show (v ^^^ 99) ^^^ rl v 1 ^^^ rl v 2 ^^^ rl v 3 ^^^ rl v 4 = aff v from rfl)
  have R1 := Lib.hid (fun W => rot1 v W h)
  have R2 := Lib.hid (fun W => rot2 v W h)
  have R3 := Lib.hid (fun W => rot3 v W h)
  have R4 := Lib.hid (fun W => rot4 v W h)
  generalize (v ^^^ 99) ^^^ rl v 1 ^^^ rl v 2 ^^^ rl v 3 ^^^ rl v 4 = a4 at *
  generalize (v ^^^ 99) ^^^ rl v 1 ^^^ rl v 2 ^^^ rl v 3 = a3 at *
  generalize (v ^^^ 99) ^^^ rl v 1 ^^^ rl v 2 = a2 at *
  generalize (v ^^^ 99) ^^^ rl v 1 = a1 at *
  generalize (v ^^^ 99) = a0 at *
  generalize rl v 1 = r1 at *
  generalize rl v 2 = r2 at *
  generalize rl v 3 = r3 at *
  generalize rl v 4 = r4 at *
  clear h l1 l2 l3 l4 y0 y1 y2 y3
  go_enter Try.func56, Try.ntmps56
  go_wp2_with fail
  refine wp_loop_rounds 5 ?_
  rw [rounds_succ]
  go_wp2_with fail
  refine (R1.out _).mono ?_
  rintro e w1 ⟨rfl, hw1⟩
  rw [hw1]
  clear hw1 w1
  go_wp2_with fail
  rw [rounds_succ]
  go_wp2_with fail
  refine (R2.out _).mono ?_
  rintro e w1 ⟨rfl, hw1⟩
  rw [hw1]
  clear hw1 w1
  go_wp2_with fail
  rw [rounds_succ]
  go_wp2_with fail
  refine (R3.out _).mono ?_
  rintro e w1 ⟨rfl, hw1⟩
  rw [hw1]
  clear hw1 w1
  go_wp2_with fail
  rw [rounds_succ]
  go_wp2_with fail
  refine (R4.out _).mono ?_
  rintro e w1 ⟨rfl, hw1⟩
  rw [hw1]
  clear hw1 w1
  go_wp2_with fail
  rw [rounds_succ]
  go_wp2_with fail
  go_ret
  exact ⟨by rw [← HE.out]; rfl, rfl⟩
abbrev t256 : TypeId := 54
theorem info_256 : (Try.prog.info? t256).map (·.size) = some 256 := by kernel_rfl
def z256 : List Nat := List.replicate 256 0
theorem bx_succ (i : Nat) : bx (i + 1) = ((bx i).1 ^^^ dbl (bx i).1, qs (bx i).2.1, (bx i).2.2.set (bx i).1 (aff (bx i).2.1)) := by rw [bx]
set_option maxRecDepth 100000 in
set_option maxHeartbeats 1600000 in
theorem boxes_any (w : World) : Calls Try.prog 35 #[] w fun e w' => e = .returned (.agg (arr .u8 boxT)) ∧ Below w.heap.size w w' := by
  go_enter Try.func35, Try.ntmps35
  go_upto_region 2 with (fail)
  refine wp_at fun W hW => ?_
  obtain ⟨h2, h4, hb, hsz⟩ := two_ab (k := .u8) (k' := .u8) z256 z256 hW
  have H2 := Lib.hid h2
  have H4 := Lib.hid (show AB .u8 t256 (w.heap.size + 1) (bx 0).2.2 W from h4)
  have HB := Lib.hid hb
  clear hW h2 h4 hb hsz
  go_wp2_with fail
  go_loopg [2, 3, 4] 257 (fun g v2 v3 v4 w' => ∃ i : Nat, v2 = .int .u8 ((bx i).1 : Nat) ∧ v3 = .int .u8 ((bx i).2.1 : Nat) ∧ v4 = .int .i64 (i : Int) ∧ Hid (i ≤ 255 ∧ 255 < g + i) ∧ Hid (AB .u8 t256 w.heap.size z256 w') ∧ Hid (AB .u8 t256 (w.heap.size + 1) (bx i).2.2 w') ∧ Hid (Below w.heap.size w w'))
  case atStart => exact ⟨0, rfl, rfl, rfl, Lib.hid ⟨by omega, by omega⟩, H2, H4, HB⟩
  case round =>
    obtain ⟨i, rfl, rfl, rfl, HJ, HZ, HO, HV⟩ := hrel
    clear H2 H4 HB
    cases gk with
    | zero => have := HJ.out; omega
    | succ k =>
      by_cases hi : i < 255
      · have HJ' := Lib.hid (show i < 255 ∧ 255 < (k + 1) + i from ⟨hi, HJ.out.2⟩)
        obtain ⟨b1, b2, b3, b4⟩ := bx_lt i
        have HS := Lib.hid (bx_succ i)
        have HL := Lib.hid b3
        generalize (bx i).2.2 = L at *
        generalize (bx i).1 = p at *
        generalize (bx i).2.1 = q at *
        have c0 := HO.out.cell (i := p) (by have := HL.out; omega)
        have f0 := HO.out.fz p
        have HA := Lib.hid (fun W => affine_any q W b2)
        have HD := Lib.hid (fun W => double_any p W b1)
        have xp := xor8n p (dbl p) b1 (dbl_lt b1)
        have k1 := q1_lt b2
        have k2 := q2_lt k1
        have k4 := q4_lt k2
        have x1 : bits .xor .u8 (q : Int) ((q : Int) * 2 % 256) = ((q1 q : Nat) : Int) := by
          have := xor8n q (2 * q % 256) b2 (Nat.mod_lt _ (by decide))
          rw [show (q : Int) * 2 % 256 = ((2 * q % 256 : Nat) : Int) from by omega]
          exact this
        have x2 : bits .xor .u8 ((q1 q : Nat) : Int) (((q1 q : Nat) : Int) * 4 % 256) = ((q2 (q1 q) : Nat) : Int) := by
          have := xor8n (q1 q) (4 * q1 q % 256) k1 (Nat.mod_lt _ (by decide))
          rw [show ((q1 q : Nat) : Int) * 4 % 256 = ((4 * q1 q % 256 : Nat) : Int) from by omega]
          exact this
        have x4 : bits .xor .u8 ((q2 (q1 q) : Nat) : Int) (((q2 (q1 q) : Nat) : Int) * 16 % 256) = ((q4 (q2 (q1 q)) : Nat) : Int) := by
          have := xor8n (q2 (q1 q)) (16 * q2 (q1 q) % 256) k2 (Nat.mod_lt _ (by decide))
          rw [show ((q2 (q1 q) : Nat) : Int) * 16 % 256 = ((16 * q2 (q1 q) % 256 : Nat) : Int) from by omega]
          exact this
        have HQs := Lib.hid (show qs q = q9 (q4 (q2 (q1 q))) from rfl)
        generalize q4 (q2 (q1 q)) = y4 at *
        generalize q2 (q1 q) = y2 at *
        generalize q1 q = y1 at *
        have ha0 := and8_128 y4 k4
        have x9 : bits .xor .u8 (y4 : Int) 9 = ((y4 ^^^ 9 : Nat) : Int) := xor8n y4 9 k4 (by decide)
        have z0 : (i : Int) < 255 := by omega
        have z1 : (0 : Int) ≤ (i : Int) := by omega
        have z2 : (p : Int) < 256 := by omega
        have z3 : (q : Int) < 256 := by omega
        have z4 : (y1 : Int) < 256 := by omega
        have z5 : (y2 : Int) < 256 := by omega
        have z6 : (y4 : Int) < 256 := by omega
        by_cases h1 : 128 ≤ y4
        · rw [if_pos h1] at ha0
          have ha : bits .and .u8 (y4 : Int) 128 = 128 := ha0
          have H9 := Lib.hid (show qs q = y4 ^^^ 9 from by rw [HQs.out]; exact if_pos h1)
          clear b1 b2 b3 b4 hi HJ h1 ha0 k1 k2 k4 HQs
          go_wp2_with (first
            | (go_at_call 56; refine (HA.out _).mono ?_; rintro e w1 ⟨rfl, hw1⟩; (rw [hw1]); clear hw1 w1)
            | (go_at_call 57; refine (HD.out _).mono ?_; rintro e w1 ⟨rfl, hw1⟩; (rw [hw1]); clear hw1 w1))
          go_roundg k
          case measure => have := HJ'.out; omega
          case rel => exact ⟨i + 1, by rw [HS.out], by rw [HS.out, H9.out], by go_num, Lib.hid (by have := HJ'.out; omega), Lib.hid (HZ.out.other (by omega)), Lib.hid (by rw [HS.out]; exact HO.out.set p (aff q)), Lib.hid (HV.out.setCell (p := ⟨w.heap.size + 1, p, none⟩) (Nat.le_succ _) _)⟩
        · rw [if_neg h1] at ha0
          have ha : bits .and .u8 (y4 : Int) 128 = 0 := ha0
          have H9 := Lib.hid (show qs q = y4 from by rw [HQs.out]; exact if_neg h1)
          clear b1 b2 b3 b4 hi HJ h1 ha0 k1 k2 k4 HQs
          go_wp2_with (first
            | (go_at_call 56; refine (HA.out _).mono ?_; rintro e w1 ⟨rfl, hw1⟩; (rw [hw1]); clear hw1 w1)
            | (go_at_call 57; refine (HD.out _).mono ?_; rintro e w1 ⟨rfl, hw1⟩; (rw [hw1]); clear hw1 w1))
          go_roundg k
          case measure => have := HJ'.out; omega
          case rel => exact ⟨i + 1, by rw [HS.out], by rw [HS.out, H9.out], by go_num, Lib.hid (by have := HJ'.out; omega), Lib.hid (HZ.out.other (by omega)), Lib.hid (by rw [HS.out]; exact HO.out.set p (aff q)), Lib.hid (HV.out.setCell (p := ⟨w.heap.size + 1, p, none⟩) (Nat.le_succ _) _)⟩
      · obtain rfl : i = 255 := by have := HJ.out; omega
        have HL := Lib.hid (bx_lt 255).2.2.1
        have HT := Lib.hid (show (bx 255).2.2.set 0 (aff 0) = boxT from rfl)
        generalize (bx 255).2.2 = L at *
        generalize (bx 255).1 = p at *
        generalize (bx 255).2.1 = q at *
        have c0 : wr.cell? ⟨w.heap.size + 1, 0, none⟩ = _ := HO.out.cell (i := 0) (by have := HL.out; omega)
        have f0 := HO.out.fz 0
        have HA := Lib.hid (fun W => affine_any 0 W (by decide))
        clear hi HJ
        go_upto_region 14 with (go_at_call 56; refine (HA.out _).mono ?_; rintro e w1 ⟨rfl, hw1⟩; (rw [hw1]); clear hw1 w1)
        refine wp_at fun W2 hW2 => ?_
        have HO2 := Lib.hid (show AB .u8 t256 (w.heap.size + 1) boxT W2 from by rw [hW2, ← HT.out]; exact HO.out.set 0 (aff 0))
        have HZ2 := Lib.hid (show AB .u8 t256 w.heap.size z256 W2 from by rw [hW2]; exact HZ.out.other (by omega))
        have HV2 := Lib.hid (show Below w.heap.size w W2 from by rw [hW2]; exact HV.out.setCell (p := ⟨w.heap.size + 1, 0, none⟩) (Nat.le_succ _) _)
        clear hW2 c0 f0 HO HZ HV
        have hi := info_256
        rw [← boxT_len] at hi
        have Hi := Lib.hid hi
        clear hi
        go_wp2_with (first
          | (refine load_ab .u8 (w.heap.size + 1) boxT rfl rfl rfl HO2.out Try.underlying54 Hi.out ?_)
          | (refine store_ab .u8 w.heap.size z256 boxT rfl rfl rfl rfl rfl HZ2.out Hi.out (by rw [boxT_len]; exact List.length_replicate) ?_; intro w9 h9 hg9; (have H9 := Lib.hid h9); (have HB9 := Lib.hid (below_grown HV2.out HV2.out.size hg9 (Nat.le_refl _))); clear h9 hg9))
        have hl := H9.out.load (P := Try.prog) Try.underlying54 Hi.out
        exact bodyPost_ret (v := .agg (arr .u8 boxT)) (by simp [results, Try.results35, hl, Act.put, asAddr]) rfl ⟨rfl, HB9.out⟩
theorem index_arrk {P : Program} {t e : TypeId} {n : Nat} {d : TypeDesc} (hu : P.underlying t = some (.array n e)) (he : P.underlying e = some d) (hd : d.isRow = false) (hs : (P.info? e).map (·.size) = some 1) (k : IntKind) (l : List Nat) (hl : l.length = n) (i : Nat) (hi : i < n) (kI : IntKind) (W : World) :
    (Instr.index t (.agg (arr k l)) (.int kI (i : Int))).run P W = .ok (.int k (l.getD i 0 : Nat)) W := by
  have hagg : (isAgg e).run P W = .ok false W := by
    unfold isAgg
    rw [Sem.run_bind, run_underlying he W]
    cases d <;> first | rfl | (simp [TypeDesc.isRow] at hd)
  cases hq : P.info? e with
  | none => simp [hq] at hs
  | some j =>
    have hj : j.size = 1 := by simpa [hq] using hs
    have hc : (0 : Int) ≤ (i : Int) ∧ (i : Int) < (n : Int) := ⟨by omega, by omega⟩
    have hg := arr_get? k l (i := i) (by omega)
    simp [Instr.index, run_underlying hu, asIntOf, hc, sizeOf, typeInfo, hq, hj, part, Sem.run_bind, hagg, hg, go_sem]
    intro h
    omega
set_option maxRecDepth 100000 in
theorem box_any (b : Nat) (w : World) (h : b < 256) : Calls Try.prog 14 #[.int .u8 (b : Int)] w fun e w' => e = .returned (.int .u8 (boxT.getD b 0 : Nat)) ∧ Below w.heap.size w w' := by
  have hix : ∀ W : World, (Instr.index t256 (.agg (arr .u8 boxT)) (.int .u8 (b : Int))).run Try.prog W = .ok (.int .u8 (boxT.getD b 0 : Nat)) W := fun W => index_arrk (n := 256) Try.underlying54 Try.underlying5 rfl (by kernel_rfl) .u8 boxT boxT_len b h .u8 W
  clear h
  go_enter Try.func14, Try.ntmps14
  go_wp2_with (go_at_call 35; refine (boxes_any _).mono ?_; rintro e w1 ⟨rfl, hb1⟩; (have HB1 := Lib.hid hb1); clear hb1)
  go_ret
  exact ⟨rfl, HB1.out⟩
end Go.Proofs.Ytblnclooobggnaa.A

namespace Go.Proofs.Ytblnclooobggnaa.A
open Go.RowKit Go.Proofs.Ytblnclooobggnaa.L Go.Proofs.Ytblnclooobggnaa.N Go.Proofs.YtblnclooobggnaaW.PrintWords

abbrev tC : TypeId := 59
def bys (l : List Nat) : List Value := l.map (fun x : Nat => Value.int .u8 (x : Int))
theorem bys_len (l : List Nat) : (bys l).length = l.length := by simp [bys]
theorem bys_app (a b : List Nat) : bys (a ++ b) = bys a ++ bys b := by simp [bys]
theorem bys_get {l : List Nat} {i : Nat} (h : i < l.length) : (bys l)[i]? = some (.int .u8 (l.getD i 0 : Nat)) := by
  unfold bys
  rw [List.getElem?_map, List.getD_eq_getElem?_getD, List.getElem?_eq_getElem h]
  rfl
/-- a cipher's cells: once, whether it was made, all bytes, how many turns -/
def CC (dn st : Int) (made : Bool) (M : List Nat) (tn : Int) : List Value := [.int .u32 dn, .int .i32 st, .int .u32 0, .bool made] ++ (bys M ++ [.int .i64 tn])
structure CB (b : Nat) (dn st : Int) (made : Bool) (M : List Nat) (tn : Int) (w : World) : Prop where
  blk : w.heap[b]? = some (.cells (CC dn st made M tn).toArray tC (0, 0))
  len : M.length = 704
section
variable {b : Nat} {dn st tn : Int} {made : Bool} {M : List Nat} {w w1 : World}
theorem CB.lt (h : CB b dn st made M tn w) : b < w.heap.size := blk_lt h.blk
theorem CB.c0 (h : CB b dn st made M tn w) : w.cell? ⟨b, 0, none⟩ = some (.int .u32 dn) := by rw [blk_cell h.blk]; rfl
theorem CB.c1 (h : CB b dn st made M tn w) : w.cell? ⟨b, 1, none⟩ = some (.int .i32 st) := by rw [blk_cell h.blk]; rfl
theorem CB.c3 (h : CB b dn st made M tn w) : w.cell? ⟨b, 3, none⟩ = some (.bool made) := by rw [blk_cell h.blk]; rfl
theorem CC_get (hl : M.length = 704) {i : Nat} (hi : i < 704) : (CC dn st made M tn)[4 + i]? = some (.int .u8 (M.getD i 0 : Nat)) := by
  unfold CC
  rw [List.getElem?_append_right (by simp), show 4 + i - [Value.int .u32 dn, .int .i32 st, .int .u32 0, .bool made].length = i from by show 4 + i - 4 = i; omega, List.getElem?_append_left (by rw [bys_len]; omega), bys_get (by omega)]
theorem CB.cm (h : CB b dn st made M tn w) {i : Nat} (hi : i < 704) : w.cell? ⟨b, 4 + i, none⟩ = some (.int .u8 (M.getD i 0 : Nat)) := by
  rw [blk_cell h.blk, List.getElem?_toArray, CC_get h.len hi]
theorem CB.ct (h : CB b dn st made M tn w) : w.cell? ⟨b, 708, none⟩ = some (.int .i64 tn) := by
  have hl := h.len
  rw [blk_cell h.blk, List.getElem?_toArray]
  unfold CC
  rw [List.getElem?_append_right (by simp), show 708 - [Value.int .u32 dn, .int .i32 st, .int .u32 0, .bool made].length = 704 from rfl, List.getElem?_append_right (by rw [bys_len]; omega), bys_len, hl]
  rfl
theorem CB.fz (h : CB b dn st made M tn w) (i : Nat) : w.frozen? ⟨b, i, none⟩ = false := blk_frozen h.blk i
theorem CB.set (h : CB b dn st made M tn w) (i : Nat) (u : Value) : (w.setCell ⟨b, i, none⟩ u).heap[b]? = some (.cells ((CC dn st made M tn).set i u).toArray tC (0, 0)) := by
  rw [blk_set h.blk i u]
  simp
theorem CB.s0 (h : CB b dn st made M tn w) (x : Int) : CB b x st made M tn (w.setCell ⟨b, 0, none⟩ (.int .u32 x)) := ⟨h.set 0 _, h.len⟩
theorem CB.s1 (h : CB b dn st made M tn w) (x : Int) : CB b dn x made M tn (w.setCell ⟨b, 1, none⟩ (.int .i32 x)) := ⟨h.set 1 _, h.len⟩
theorem CC_set (hl : M.length = 704) {i : Nat} (hi : i < 704) (x : Nat) : (CC dn st made M tn).set (4 + i) (.int .u8 (x : Int)) = CC dn st made (M.set i x) tn := by
  unfold CC
  rw [List.set_append_right _ _ (by simp), show 4 + i - [Value.int .u32 dn, .int .i32 st, .int .u32 0, .bool made].length = i from by show 4 + i - 4 = i; omega, List.set_append_left _ _ (by rw [bys_len]; omega)]
  unfold bys
  rw [List.map_set]
theorem CB.sm (h : CB b dn st made M tn w) {i : Nat} (hi : i < 704) (x : Nat) : CB b dn st made (M.set i x) tn (w.setCell ⟨b, 4 + i, none⟩ (.int .u8 (x : Int))) :=
  ⟨by rw [h.set, CC_set h.len hi], by rw [List.length_set]; exact h.len⟩
theorem CB.stt (h : CB b dn st made M tn w) (x : Int) : CB b dn st made M x (w.setCell ⟨b, 708, none⟩ (.int .i64 x)) := by
  refine ⟨?_, h.len⟩
  have hl := h.len
  rw [h.set]
  unfold CC
  rw [List.set_append_right _ _ (by simp), show 708 - [Value.int .u32 dn, .int .i32 st, .int .u32 0, .bool made].length = 704 from rfl, List.set_append_right _ _ (by rw [bys_len]; omega), bys_len, hl]
  rfl
theorem CB.keep (h : CB b dn st made M tn w) (hm : w1.heap[b]? = w.heap[b]?) : CB b dn st made M tn w1 := ⟨hm.trans h.blk, h.len⟩
theorem CB.below (h : CB b dn st made M tn w) (hb : Below w.heap.size w w1) : CB b dn st made M tn w1 := h.keep (hb.block b h.lt)
theorem CB.drew (h : CB b dn st made M tn w) : CB b dn st made M tn w.drew := h.keep rfl
theorem CB.grown {g : Nat} (h : CB b dn st made M tn w) (hg : w.grownBy w1 (some g)) (hne : b ≠ g) : CB b dn st made M tn w1 := h.keep (hg.block b h.lt (fun e => hne (by injection e)))
/-- several bytes at once -/
theorem CB.sp (h : CB b dn st made M tn w) {o : Nat} {cs : List Nat} (ho : o + cs.length ≤ 704) : CB b dn st made (splice M o cs) tn (w.setCells b (4 + o) (bys cs)) := by
  have hl := h.len
  refine ⟨?_, ?_⟩
  · rw [setCells_blk b tC (bys cs) (4 + o) (CC dn st made M tn) w h.blk (by rw [bys_len]; unfold CC; simp only [List.length_append, List.length_cons, List.length_nil, bys_len, hl]; omega)]
    congr 2
    unfold CC
    unfold splice
    rw [bys_len]
    have e4 : [Value.int .u32 dn, .int .i32 st, .int .u32 0, .bool made].length = 4 := rfl
    rw [List.take_append, List.drop_append, e4, List.take_of_length_le (by rw [e4]; omega), List.drop_of_length_le (by rw [e4]; omega), show 4 + o - 4 = o from by omega, show 4 + o + cs.length - 4 = o + cs.length from by omega, List.take_append_of_le_length (by rw [bys_len]; omega), List.drop_append_of_le_length (by rw [bys_len]; omega)]
    rw [bys_app, bys_app]
    unfold bys
    rw [List.map_take, List.map_drop]
    simp
  · unfold splice
    simp only [List.length_append, List.length_take, List.length_drop]
    omega
theorem CB.there (h : CB b dn st made M tn w) {o n : Nat} (ho : o + n ≤ 704) : w.there b (4 + o) n := by
  have hl := h.len
  exact there_blk h.blk (by unfold CC; simp only [List.length_append, List.length_cons, List.length_nil, bys_len, hl]; omega)
theorem CB.range (h : CB b dn st made M tn w) {o : Nat} {cs : List Nat} (hc : ∀ j, j < cs.length → M.getD (o + j) 0 = cs.getD j 0) (ho : o + cs.length ≤ 704) : w.rangeAt b (4 + o) (bys cs) := by
  refine range_blk h.blk (fun j v hj => ?_)
  have hjl : j < cs.length := by
    have := (List.getElem?_eq_some_iff.1 hj).1
    rwa [bys_len] at this
  rw [bys_get hjl] at hj
  rw [← hj, show 4 + o + j = 4 + (o + j) from by omega, CC_get h.len (by omega), hc j hjl]
end
theorem gset (w : World) (b i : Nat) (v : Value) : w.grownBy (w.setCell ⟨b, i, none⟩ v) (some b) := grown_set w b i v
theorem gdrew (w : World) (row : Option Nat) : w.grownBy w.drew row := grown_drew w row
/-! sync.Once, one goroutine -/
theorem disable (w : World) : (callFunc 100 #[]).run Try.prog w = .ok (.value (.tuple #[])) w := run_call_mark0 Try.func100 (by kernel_rfl) (by kernel_rfl) (by kernel_rfl) .disable (by kernel_rfl) w
theorem enable (w : World) : (callFunc 102 #[]).run Try.prog w = .ok (.value (.tuple #[])) w := run_call_mark0 Try.func102 (by kernel_rfl) (by kernel_rfl) (by kernel_rfl) .enable (by kernel_rfl) w
theorem acquire (a : Addr) (w : World) : (callFunc 103 #[.pointer (some a)]).run Try.prog w = .ok (.value (.tuple #[])) w := run_call_marked Try.func103 (by kernel_rfl) (by kernel_rfl) (by kernel_rfl) .acquire (by kernel_rfl) a w
theorem releaseMerge (a : Addr) (w : World) : (callFunc 105 #[.pointer (some a)]).run Try.prog w = .ok (.value (.tuple #[])) w := run_call_marked Try.func105 (by kernel_rfl) (by kernel_rfl) (by kernel_rfl) .releaseMerge (by kernel_rfl) a w
set_option maxHeartbeats 800000 in
theorem store_deferred (a : Addr) (x : Value) (u : FrameMode) (w : World) (hc : w.cell? a = some x) (hz : w.frozen? a = false) :
    CallsD Try.prog 85 #[.pointer (some a), .bool true] u w fun e u' w' => u' = u ∧ (e = .returned (.tuple #[]) ∧ w' = w.drew.setCell a (.int .u32 1)) := by
  have hc' : w.drew.cell? a = some x := by go_simp
  have hz' : w.drew.frozen? a = false := by go_simp
  have hst := run_call_store (P := Try.prog) Try.func94 (by kernel_rfl) (by kernel_rfl) (by kernel_rfl) (by kernel_rfl) (k := .u32) (y := 1) hc' hz'
  go_enter_d Try.func85, Try.ntmps85
  go_wp2
  go_region_calls
  all_goals (go_end0; exact ⟨rfl, rfl⟩)
set_option maxRecDepth 100000 in
set_option maxHeartbeats 1600000 in
theorem unlock_deferred (a : Addr) (u : FrameMode) (w : World) (hc : w.cell? a = some (.int .i32 1)) (hz : w.frozen? a = false) :
    CallsD Try.prog 84 #[.pointer (some a)] u w fun e u' w' => u' = u ∧ (e = .returned (.tuple #[]) ∧ w' = w.setCell a (.int .i32 0)) := by
  have hd := disable
  have he := enable
  have hr := releaseMerge
  have hadd := run_call_add (P := Try.prog) Try.func106 (by kernel_rfl) (by kernel_rfl) (by kernel_rfl) .i32 (by kernel_rfl) (y := -1) (s := 0) hc hz (by simp [go_sem]; rfl)
  have hcv := run_convert_to_unsafe (P := Try.prog) (src := 167) (dst := 171) Try.underlying167 Try.underlying171 (by kernel_rfl) hc
  go_enter_d Try.func84, Try.ntmps84
  go_wp2
  go_end0
  go_wp2
  go_end0
  exact ⟨rfl, rfl⟩
set_option maxRecDepth 100000 in
set_option maxHeartbeats 1600000 in
theorem lock_free (a : Addr) (w : World) (hc : w.cell? a = some (.int .i32 0)) (hz : w.frozen? a = false) :
    Calls Try.prog 83 #[.pointer (some a)] w fun e w' => e = .returned (.tuple #[]) ∧ w' = w.setCell a (.int .i32 1) := by
  have hd := disable
  have he := enable
  have ha := acquire
  have hcas := run_call_cas_hit (P := Try.prog) Try.func101 (by kernel_rfl) (by kernel_rfl) (by kernel_rfl) .i32 (by kernel_rfl) (y := 1) hc hz
  have hc' : (w.setCell a (.int .i32 1)).cell? a = some (.int .i32 1) := World.cell?_setCell_same w a _ hc
  have hcv := run_convert_to_unsafe (P := Try.prog) (src := 167) (dst := 171) Try.underlying167 Try.underlying171 (by kernel_rfl) hc'
  go_enter Try.func83, Try.ntmps83
  go_wp2
  first | go_end0 | (simp only [Exit.inBlock, Exit.then]; refine bodyPost_ret (results_none rfl _ _ _) rfl ?_) | refine bodyPost_ret (results_none rfl _ _ _) rfl ?_
  go_wp2
  go_end0
  exact ⟨rfl, rfl⟩
end Go.Proofs.Ytblnclooobggnaa.A

namespace Go.Proofs.Ytblnclooobggnaa.A
open Go.RowKit Go.Proofs.Ytblnclooobggnaa.N

def pw : Nat → Nat
  | 0 => 1
  | n + 1 => dbl (pw n)
theorem pw_lt : ∀ n, pw n < 256
  | 0 => by decide
  | n + 1 => dbl_lt (pw_lt n)
def bxv (x : Nat) : Nat := boxT.getD x 0
theorem bxv_lt (x : Nat) : bxv x < 256 := getD_lt0 (by decide) x boxT_lt
/-- the word ahead of word i, turned where i is a fourth -/
def tmpW (W : List Nat) (i : Nat) : List Nat :=
  if i % 4 = 0 then [bxv (W.getD (4 * (i - 1) + 1) 0) ^^^ pw ((i - 1) / 4), bxv (W.getD (4 * (i - 1) + 2) 0), bxv (W.getD (4 * (i - 1) + 3) 0), bxv (W.getD (4 * (i - 1)) 0)]
  else [W.getD (4 * (i - 1)) 0, W.getD (4 * (i - 1) + 1) 0, W.getD (4 * (i - 1) + 2) 0, W.getD (4 * (i - 1) + 3) 0]
def nxtW (W : List Nat) (i : Nat) : List Nat := (List.range 4).map (fun k => W.getD (4 * (i - 4) + k) 0 ^^^ (tmpW W i).getD k 0)
/-- the first 4 + n words' bytes -/
def WS (key : List Nat) : Nat → List Nat
  | 0 => key
  | n + 1 => WS key n ++ nxtW (WS key n) (n + 4)
theorem WS_succ (key : List Nat) (n : Nat) : WS key (n + 1) = WS key n ++ nxtW (WS key n) (n + 4) := by rw [WS]
theorem nxtW_len (W : List Nat) (i : Nat) : (nxtW W i).length = 4 := by simp [nxtW]
theorem WS_len {key : List Nat} (h : key.length = 16) : ∀ n, (WS key n).length = 16 + 4 * n
  | 0 => by rw [WS]; omega
  | n + 1 => by rw [WS_succ, List.length_append, WS_len h n, nxtW_len]; omega
theorem tmpW_lt {W : List Nat} (h : ∀ x ∈ W, x < 256) (i : Nat) : ∀ x ∈ tmpW W i, x < 256 := by
  have g : ∀ j, W.getD j 0 < 256 := fun j => getD_lt0 (by decide) j h
  have l4 : ∀ {a b c d x : Nat}, a < 256 → b < 256 → c < 256 → d < 256 → x ∈ [a, b, c, d] → x < 256 := fun ha hb hc hd hx => by
    simp only [List.mem_cons, List.not_mem_nil, or_false] at hx
    rcases hx with h | h | h | h <;> rw [h] <;> assumption
  intro x hx
  unfold tmpW at hx
  split at hx
  · exact l4 (xor8 (bxv_lt _) (pw_lt _)) (bxv_lt _) (bxv_lt _) (bxv_lt _) hx
  · exact l4 (g _) (g _) (g _) (g _) hx
theorem nxtW_lt {W : List Nat} (h : ∀ x ∈ W, x < 256) (i : Nat) : ∀ x ∈ nxtW W i, x < 256 := by
  intro x hx
  obtain ⟨k, _, rfl⟩ := List.mem_map.1 hx
  exact xor8 (getD_lt0 (by decide) _ h) (getD_lt0 (by decide) _ (tmpW_lt h i))
theorem WS_lt {key : List Nat} (h : ∀ x ∈ key, x < 256) : ∀ n, ∀ x ∈ WS key n, x < 256
  | 0 => by rw [WS]; exact h
  | n + 1 => by rw [WS_succ]; exact app_lt (WS_lt h n) (nxtW_lt (WS_lt h n) _)
def WK (key : List Nat) : List Nat := WS key 40
theorem WK_len {key : List Nat} (h : key.length = 16) : (WK key).length = 176 := WS_len h 40
theorem WK_lt {key : List Nat} (h : ∀ x ∈ key, x < 256) : ∀ x ∈ WK key, x < 256 := WS_lt h 40
def twT : List Nat := (List.range 256).map dbl
theorem twT_len : twT.length = 256 := by simp [twT]
theorem twT_get {i : Nat} (h : i < 256) : twT.getD i 0 = dbl i := by
  unfold twT
  rw [List.getD_eq_getElem?_getD, List.getElem?_map, List.getElem?_range h]
  rfl
/-- all bytes of a cipher -/
def MM (key box tw ws : List Nat) : List Nat := key ++ (box ++ (tw ++ ws))
def MF (key : List Nat) : List Nat := MM key boxT twT (WK key)
section
variable {key box tw ws : List Nat}
theorem MM_len (h1 : key.length = 16) (h2 : box.length = 256) (h3 : tw.length = 256) (h4 : ws.length = 176) : (MM key box tw ws).length = 704 := by
  unfold MM; simp only [List.length_append]; omega
theorem getD_left {a b : List Nat} {i : Nat} (h : i < a.length) : (a ++ b).getD i 0 = a.getD i 0 := by
  rw [List.getD_eq_getElem?_getD, List.getElem?_append_left h, ← List.getD_eq_getElem?_getD]
theorem getD_right {a b : List Nat} {n : Nat} (i : Nat) (h : a.length = n) : (a ++ b).getD (n + i) 0 = b.getD i 0 := by
  rw [List.getD_eq_getElem?_getD, List.getElem?_append_right (by omega), show n + i - a.length = i from by omega, ← List.getD_eq_getElem?_getD]
theorem MM_key (h1 : key.length = 16) {i : Nat} (h : i < 16) : (MM key box tw ws).getD i 0 = key.getD i 0 := getD_left (by omega)
theorem MM_box (h1 : key.length = 16) (h2 : box.length = 256) {i : Nat} (h : i < 256) : (MM key box tw ws).getD (16 + i) 0 = box.getD i 0 := by
  unfold MM; rw [getD_right i h1, getD_left (by omega)]
theorem MM_tw (h1 : key.length = 16) (h2 : box.length = 256) (h3 : tw.length = 256) {i : Nat} (h : i < 256) : (MM key box tw ws).getD (272 + i) 0 = tw.getD i 0 := by
  unfold MM; rw [show 272 + i = 16 + (256 + i) from by omega, getD_right _ h1, getD_right i h2, getD_left (by omega)]
theorem MM_ws (h1 : key.length = 16) (h2 : box.length = 256) (h3 : tw.length = 256) (i : Nat) : (MM key box tw ws).getD (528 + i) 0 = ws.getD i 0 := by
  unfold MM; rw [show 528 + i = 16 + (256 + (256 + i)) from by omega, getD_right _ h1, getD_right _ h2, getD_right i h3]
theorem set_right {a b : List Nat} {n : Nat} (i x : Nat) (h : a.length = n) : (a ++ b).set (n + i) x = a ++ b.set i x := by
  rw [List.set_append_right _ _ (by omega), show n + i - a.length = i from by omega]
theorem MM_set_tw (h1 : key.length = 16) (h2 : box.length = 256) (h3 : tw.length = 256) {i : Nat} (h : i < 256) (x : Nat) : (MM key box tw ws).set (272 + i) x = MM key box (tw.set i x) ws := by
  unfold MM; rw [show 272 + i = 16 + (256 + i) from by omega, set_right _ _ h1, set_right _ _ h2, List.set_append_left _ _ (by omega)]
theorem MM_set_ws (h1 : key.length = 16) (h2 : box.length = 256) (h3 : tw.length = 256) (i x : Nat) : (MM key box tw ws).set (528 + i) x = MM key box tw (ws.set i x) := by
  unfold MM; rw [show 528 + i = 16 + (256 + (256 + i)) from by omega, set_right _ _ h1, set_right _ _ h2, set_right _ _ h3]
theorem MM_sp_box (h1 : key.length = 16) (h2 : box.length = 256) {cs : List Nat} (hc : cs.length = 256) : splice (MM key box tw ws) 16 cs = MM key cs tw ws := by
  unfold splice MM
  have e1 : (key ++ (box ++ (tw ++ ws))).take 16 = key := by rw [List.take_append_of_le_length (by omega), List.take_of_length_le (by omega)]
  have e2 : (key ++ (box ++ (tw ++ ws))).drop (16 + cs.length) = tw ++ ws := by
    rw [hc, ← List.drop_drop, show (16 : Nat) = key.length from h1.symm, List.drop_left, show (256 : Nat) = box.length from h2.symm, List.drop_left]
  rw [e1, e2]
theorem MM_sp_ws (h1 : key.length = 16) (h2 : box.length = 256) (h3 : tw.length = 256) (o : Nat) (cs : List Nat) : splice (MM key box tw ws) (528 + o) cs = MM key box tw (splice ws o cs) := by
  unfold splice MM
  rw [show 528 + o = 16 + (256 + (256 + o)) from by omega, show 16 + (256 + (256 + o)) + cs.length = 16 + (256 + (256 + (o + cs.length))) from by omega]
  have t : ∀ (a b : List Nat) (n m : Nat), a.length = n → (a ++ b).take (n + m) = a ++ b.take m := fun a b n m h => by
    rw [List.take_append, List.take_of_length_le (by omega), show n + m - a.length = m from by omega]
  have d : ∀ (a b : List Nat) (n m : Nat), a.length = n → (a ++ b).drop (n + m) = b.drop m := fun a b n m h => by
    rw [List.drop_append, List.drop_of_length_le (by omega), show n + m - a.length = m from by omega, List.nil_append]
  rw [t _ _ _ _ h1, t _ _ _ _ h2, t _ _ _ _ h3, d _ _ _ _ h1, d _ _ _ _ h2, d _ _ _ _ h3]
  simp
end
/-- words so far, others behind -/
def wP (key old : List Nat) (n : Nat) : List Nat := WS key n ++ old.drop (16 + 4 * n)
theorem wP_len {key old : List Nat} (h : key.length = 16) (ho : old.length = 176) {n : Nat} (hn : n ≤ 40) : (wP key old n).length = 176 := by
  unfold wP; rw [List.length_append, WS_len h, List.length_drop]; omega
theorem wP_all {key old : List Nat} (_h : key.length = 16) (ho : old.length = 176) : wP key old 40 = WK key := by
  unfold wP WK; rw [List.drop_of_length_le (by omega), List.append_nil]
theorem wP_get {key old : List Nat} (h : key.length = 16) {n j : Nat} (hj : j < 16 + 4 * n) : (wP key old n).getD j 0 = (WS key n).getD j 0 := getD_left (by rw [WS_len h]; exact hj)
end Go.Proofs.Ytblnclooobggnaa.A

namespace Go.Proofs.Ytblnclooobggnaa.A
open Go.RowKit Go.Proofs.Ytblnclooobggnaa.L Go.Proofs.Ytblnclooobggnaa.N Go.Proofs.YtblnclooobggnaaW.PrintWords

theorem arr_bys (l : List Nat) : (arr .u8 l).toList = bys l := by simp [arr, bys]
theorem setCells_grow (w : World) (b o : Nat) (vs : List Value) : w.grownBy (w.setCells b o vs) (some b) := setCells_grown b vs o w
theorem CB.cat {b : Nat} {dn st tn : Int} {made : Bool} {M : List Nat} {w : World} (h : CB b dn st made M tn w) {i j : Nat} (hi : i < 704) (e : 4 + i = j) : w.cell? ⟨b, j, none⟩ = some (.int .u8 (M.getD i 0 : Nat)) := by
  rw [← e]; exact h.cm hi
theorem CB.sat {b : Nat} {dn st tn : Int} {made : Bool} {M : List Nat} {w : World} (h : CB b dn st made M tn w) {i j : Nat} (hi : i < 704) (e : 4 + i = j) (x : Nat) : CB b dn st made (M.set i x) tn (w.setCell ⟨b, j, none⟩ (.int .u8 (x : Int))) := by
  rw [← e]; exact h.sm hi x
theorem info_u8s : (Try.prog.info? 5).map (·.size) = some 1 := by kernel_rfl
theorem load_midA {P : Program} {ops : Array Oper} {Q : Exit → Act → World → Prop} {rest : List Oper} {a : Act} {w : World} {o : Oper} {t e : TypeId} {n : Nat} {p : Operand} (b off : Nat) (l : List Nat) (hgd : o.guard = none) (ho : o.op = .load t p) (hp : a.eval p = .pointer (some ⟨b, off, none⟩))
    (hc : w.rangeAt b off (bys l)) (hu : P.underlying t = some (.array n e)) (hi : (P.info? t).map (·.size) = some l.length)
    (h : wpList P ops Q rest (a.put o.dst (.agg (arr .u8 l))) w) : wpList P ops Q (o :: rest) a w :=
  wpList_load_mid hgd t p ho b off hp (bys l) _ hc hu rfl (by rw [bys_len]; exact hi) h
theorem grown_up {w w1 w2 : World} {b g : Nat} (h : w.grownBy w1 (some b)) (h2 : w1.grownBy w2 (some g)) (hg : w.heap.size ≤ g) : w.grownBy w2 (some b) :=
  ⟨h2.os.trans h.os, h2.tape.trans h.tape, h2.output.trans h.output, Nat.le_trans h.size h2.size, fun k hk hne => (h2.block k (Nat.lt_of_lt_of_le hk h.size) (fun e => by injection e with e; omega)).trans (h.block k hk hne)⟩
theorem info_w4 : (Try.prog.info? 36).map (·.size) = some 4 := by kernel_rfl
theorem tmpW_len (W : List Nat) (i : Nat) : (tmpW W i).length = 4 := by unfold tmpW; split <;> rfl
/-- word n + 4 written up to k bytes -/
def wQ (key old : List Nat) (n k : Nat) : List Nat := (WS key n ++ (nxtW (WS key n) (n + 4)).take k) ++ old.drop (16 + 4 * n + k)
theorem wQ_zero (key old : List Nat) (n : Nat) : wQ key old n 0 = wP key old n := by simp [wQ, wP]
theorem wQ_four (key old : List Nat) (n : Nat) : wQ key old n 4 = wP key old (n + 1) := by
  unfold wQ wP
  rw [WS_succ, List.take_of_length_le (by rw [nxtW_len]; exact Nat.le_refl _), show 16 + 4 * (n + 1) = 16 + 4 * n + 4 from by omega]
theorem nxtW_get (W : List Nat) (n : Nat) {k : Nat} (h : k < 4) : (nxtW W (n + 4)).getD k 0 = W.getD (4 * n + k) 0 ^^^ (tmpW W (n + 4)).getD k 0 := by
  unfold nxtW
  rw [List.getD_eq_getElem?_getD, List.getElem?_map, List.getElem?_range h]
  rfl
theorem wQ_get {key old : List Nat} (h : key.length = 16) {n j : Nat} (k : Nat) (hj : j < 16 + 4 * n) : (wQ key old n k).getD j 0 = (WS key n).getD j 0 := by
  unfold wQ
  rw [List.append_assoc]
  exact getD_left (by rw [WS_len h]; exact hj)
theorem wQ_set {key old : List Nat} (h : key.length = 16) (ho : old.length = 176) {n k : Nat} (hn : n < 40) (hk : k < 4) : (wQ key old n k).set (16 + 4 * n + k) ((nxtW (WS key n) (n + 4)).getD k 0) = wQ key old n (k + 1) := by
  have hl := nxtW_len (WS key n) (n + 4)
  unfold wQ
  obtain ⟨nx, hnx⟩ : ∃ nx, nx = nxtW (WS key n) (n + 4) := ⟨_, rfl⟩
  rw [← hnx] at hl ⊢
  have e1 : (WS key n ++ nx.take k).length = 16 + 4 * n + k := by rw [List.length_append, WS_len h, List.length_take]; omega
  rw [List.set_append_right _ _ (by omega), e1, Nat.sub_self, List.drop_eq_getElem_cons (i := 16 + 4 * n + k) (by omega), List.set_cons_zero]
  have e2 : nx.take (k + 1) = nx.take k ++ [nx.getD k 0] := by
    rw [List.take_add_one, List.getD_eq_getElem?_getD, List.getElem?_eq_getElem (by omega)]
    rfl
  rw [e2]
  simp [Nat.add_assoc]
theorem wQ_len {key old : List Nat} (h : key.length = 16) (ho : old.length = 176) {n k : Nat} (hn : n < 40) (hk : k ≤ 4) : (wQ key old n k).length = 176 := by
  unfold wQ
  simp only [List.length_append, List.length_take, List.length_drop, WS_len h, nxtW_len]
  omega
theorem wrd_cell {b : Nat} {dn st tn : Int} {made : Bool} {key ws : List Nat} {w : World} (h : CB b dn st made (MM key boxT twT ws) tn w) (hk : key.length = 16) {i j x : Nat} (hi : i < 176) (e : 532 + i = j) (hx : ws.getD i 0 = x) : w.cell? ⟨b, j, none⟩ = some (.int .u8 (x : Nat)) := by
  have := h.cat (i := 528 + i) (j := j) (by omega) (by omega)
  rw [MM_ws hk boxT_len twT_len, hx] at this
  exact this
theorem box_cell {b : Nat} {dn st tn : Int} {made : Bool} {key tw ws : List Nat} {w : World} (h : CB b dn st made (MM key boxT tw ws) tn w) (hk : key.length = 16) {i : Nat} (hi : i < 256) : w.cell? ⟨b, 20 + i, none⟩ = some (.int .u8 (bxv i : Nat)) := by
  have := h.cat (i := 16 + i) (j := 20 + i) (by omega) (by omega)
  rw [MM_box hk boxT_len hi] at this
  exact this
theorem wrd_range {b : Nat} {dn st tn : Int} {made : Bool} {key ws : List Nat} {w : World} (h : CB b dn st made (MM key boxT twT ws) tn w) (hk : key.length = 16) {i o a0 a1 a2 a3 : Nat} (hi : i + 4 ≤ 176) (ho : o = 532 + i) (e0 : ws.getD i 0 = a0) (e1 : ws.getD (i + 1) 0 = a1) (e2 : ws.getD (i + 2) 0 = a2) (e3 : ws.getD (i + 3) 0 = a3) : w.rangeAt b o (bys [a0, a1, a2, a3]) := by
  subst ho
  rw [show 532 + i = 4 + (528 + i) from by omega]
  refine h.range (fun j hj => ?_) (by show 528 + i + 4 ≤ 704; omega)
  rw [show 528 + i + j = 528 + (i + j) from by omega, MM_ws hk boxT_len twT_len]
  rcases (show j = 0 ∨ j = 1 ∨ j = 2 ∨ j = 3 from by have : j < 4 := hj; omega) with h | h | h | h <;> subst h
  · exact e0
  · exact e1
  · exact e2
  · exact e3
/-- the key's bytes at the front of the words, up to i words -/
def kcp (key ws : List Nat) (i : Nat) : List Nat := key.take (4 * i) ++ ws.drop (4 * i)
theorem kcp_zero (key ws : List Nat) : kcp key ws 0 = ws := by simp [kcp]
theorem kcp_len {key ws : List Nat} (hk : key.length = 16) (hw : ws.length = 176) {i : Nat} (hi : i ≤ 4) : (kcp key ws i).length = 176 := by
  unfold kcp; simp only [List.length_append, List.length_take, List.length_drop]; omega
theorem kcp_step {key ws : List Nat} (hk : key.length = 16) (_hw : ws.length = 176) {i : Nat} (hi : i < 4) : splice (kcp key ws i) (4 * i) ((key.drop (4 * i)).take 4) = kcp key ws (i + 1) := by
  unfold splice kcp
  have e0 : (key.take (4 * i)).length = 4 * i := by rw [List.length_take]; omega
  have e1 : ((key.drop (4 * i)).take 4).length = 4 := by rw [List.length_take, List.length_drop]; omega
  rw [e1, List.take_append_of_le_length (by omega), List.take_of_length_le (by omega)]
  have e2 : (key.take (4 * i) ++ ws.drop (4 * i)).drop (4 * i + 4) = ws.drop (4 * (i + 1)) := by
    rw [List.drop_append, List.drop_of_length_le (by omega), List.nil_append, e0, List.drop_drop]
    congr 1
    omega
  have e3 : key.take (4 * (i + 1)) = key.take (4 * i) ++ (key.drop (4 * i)).take 4 := by rw [show 4 * (i + 1) = 4 * i + 4 from by omega, List.take_add]
  rw [e2, e3, List.append_assoc]
theorem kcp_all {key ws : List Nat} (hk : key.length = 16) : kcp key ws 4 = wP key ws 0 := by
  unfold kcp wP
  rw [WS, List.take_of_length_le (by omega)]
theorem key_cut (b i : Nat) (hi : i < 4) (W : World) : (Instr.sliceAt 27 (.pointer (some ⟨b, 4, none⟩)) (some (.int .i64 (4 * (i : Int)))) none none).run Try.prog W = .ok (.slice (some ⟨b, 4 + 4 * i, none⟩) (16 - 4 * i) (16 - 4 * i)) W := by
  rcases (show i = 0 ∨ i = 1 ∨ i = 2 ∨ i = 3 from by omega) with h | h | h | h <;> subst h <;> kernel_rfl
theorem wpl_at {P : Program} {ops : Array Oper} {Q : Exit → Act → World → Prop} {rest : List Oper} {a : Act} {W : World} (h : ∀ W', W' = W → wpList P ops Q rest a W') : wpList P ops Q rest a W := h W rfl
theorem bys_one (l : List Nat) : ∀ v ∈ bys l, v.oneCell' = true := fun v hv => by
  obtain ⟨x, _, rfl⟩ := List.mem_map.1 hv
  rfl
theorem CC_splice {dn st tn : Int} {made : Bool} {M : List Nat} (hl : M.length = 704) {o : Nat} {cs : List Nat} (ho : o + cs.length ≤ 704) : splice (CC dn st made M tn) (4 + o) (bys cs) = CC dn st made (splice M o cs) tn := by
  unfold CC
  unfold splice
  rw [bys_len]
  have e4 : [Value.int .u32 dn, .int .i32 st, .int .u32 0, .bool made].length = 4 := rfl
  rw [List.take_append, List.drop_append, e4, List.take_of_length_le (by rw [e4]; omega), List.drop_of_length_le (by rw [e4]; omega), show 4 + o - 4 = o from by omega, show 4 + o + cs.length - 4 = o + cs.length from by omega, List.take_append_of_le_length (by rw [bys_len]; omega), List.drop_append_of_le_length (by rw [bys_len]; omega)]
  rw [bys_app, bys_app]
  unfold bys
  rw [List.map_take, List.map_drop]
  simp
theorem CB.row {b : Nat} {dn st tn : Int} {made : Bool} {M : List Nat} {w : World} (h : CB b dn st made M tn w) {o p : Nat} {cs : List Nat} (ho : o + cs.length ≤ 704) (hp : p = 4 + o) : CB b dn st made (splice M o cs) tn (w.setRow b (((CC dn st made M tn).toArray.toList.take p ++ (bys cs ++ (CC dn st made M tn).toArray.toList.drop (p + (bys cs).length))).toArray)) := by
  subst hp
  have e := CC_splice (dn := dn) (st := st) (made := made) (tn := tn) h.len ho
  refine ⟨(setRow_heap w b _ _ tC _ h.blk).trans ?_, ?_⟩
  · rw [← e]
    rfl
  · have hl := h.len
    unfold splice
    simp only [List.length_append, List.length_take, List.length_drop]
    omega
theorem min4 {i : Nat} (h : i < 4) : (16 - 4 * i).min 4 = 4 := by
  rcases (show i = 0 ∨ i = 1 ∨ i = 2 ∨ i = 3 from by omega) with h | h | h | h <;> subst h <;> rfl
theorem key_src {b : Nat} {dn st tn : Int} {made : Bool} {key box tw ws : List Nat} {w : World} (h : CB b dn st made (MM key box tw ws) tn w) (hk : key.length = 16) {i : Nat} (hi : i < 4) : ∀ (j : Nat) (v : Value), (bys ((key.drop (4 * i)).take 4))[j]? = some v → w.cell? ((⟨b, 4 + 4 * i, none⟩ : Addr).add j) = some v := fun j v hj => by
  have hl : j < ((key.drop (4 * i)).take 4).length := by
    have := (List.getElem?_eq_some_iff.1 hj).1
    rwa [bys_len] at this
  rw [bys_get hl] at hj
  have hj4 : j < 4 := by rw [List.length_take] at hl; omega
  rw [Addr.add_mid, show 4 + 4 * i + j = 4 + (4 * i + j) from by omega, h.cm (by omega), MM_key hk (by omega), ← hj]
  congr 3
  rw [List.getD_eq_getElem?_getD, List.getD_eq_getElem?_getD, List.getElem?_take, if_pos hj4, List.getElem?_drop]
set_option maxRecDepth 100000 in
set_option maxHeartbeats 6400000 in
theorem fill_any (b : Nat) (dn st tn : Int) (made : Bool) (key box tw ws : List Nat) (w : World) (h : CB b dn st made (MM key box tw ws) tn w) (hk : key.length = 16) (hb : box.length = 256) (ht : tw.length = 256) (hw : ws.length = 176) (hk8 : ∀ x ∈ key, x < 256) :
    Calls Try.prog 59 #[.pointer (some ⟨b, 0, none⟩)] w fun e w' => e = .returned (.tuple #[]) ∧ CB b dn st made (MF key) tn w' ∧ w.grownBy w' (some b) := by
  have HC := Lib.hid h
  have HK := Lib.hid hk
  have HBx := Lib.hid hb
  have HTw := Lib.hid ht
  have HWs := Lib.hid hw
  have HK8 := Lib.hid hk8
  clear h hk hb ht hw hk8
  go_enter Try.func59, Try.ntmps59
  go_upto_region 1 with (first
    | (go_at_call 35; refine (boxes_any _).mono ?_; rintro e w1 ⟨rfl, hb1⟩; (have HC1 := Lib.hid (HC.out.below hb1)); (have HG1 := Lib.hid (grown_below hb1 (some b))); clear hb1)
    | (refine wpList_store_mid rfl t256 (.tmp 11) (.tmp 9) rfl b 20 (arr .u8 boxT) rfl rfl (by rw [arr_size, boxT_len]; exact HC1.out.there (o := 16) (by omega)) (by rw [arr_size, boxT_len]; exact info_256) (arr_one _ _) ?_))
  refine wp_at fun W2 hW2 => ?_
  have HC2 := Lib.hid (show CB b dn st made (MM key boxT (fld twT tw 0) ws) tn W2 from by
    rw [hW2, arr_bys, fld_zero]
    have := HC1.out.sp (o := 16) (cs := boxT) (by rw [boxT_len]; omega)
    rwa [MM_sp_box HK.out HBx.out boxT_len] at this)
  have HG2 := Lib.hid (show w.grownBy W2 (some b) from by rw [hW2]; exact HG1.out.trans (setCells_grow _ _ _ _))
  clear hW2 HC1 HG1 HC HBx
  go_wp2_with fail
  go_loopg [12] 258 (fun g v12 w' => ∃ i : Nat, v12 = .int .i64 (i : Int) ∧ Hid (i ≤ 256 ∧ 256 < g + i) ∧ Hid (CB b dn st made (MM key boxT (fld twT tw i) ws) tn w') ∧ Hid (w.grownBy w' (some b)))
  case atStart => exact ⟨0, rfl, Lib.hid ⟨by omega, by omega⟩, HC2, HG2⟩
  case round =>
    obtain ⟨i, rfl, HJ, HC, HG⟩ := hrel
    clear HC2 HG2
    cases gk with
    | zero => have := HJ.out; omega
    | succ k =>
      by_cases hi : i < 256
      · have HJ' := Lib.hid (show i < 256 ∧ 256 < (k + 1) + i from ⟨hi, HJ.out.2⟩)
        have HD := Lib.hid (fun W => double_any i W hi)
        have HTl := Lib.hid (fld_length (new := twT) (old := tw) (by rw [twT_len]; exact HTw.out.symm) (i := i) (by rw [twT_len]; omega))
        have z0 : (i : Int) < 256 := by omega
        have z1 : (0 : Int) ≤ (i : Int) := by omega
        clear hi HJ
        go_wp2_with fail
        refine Q.wp_region_segsF none [([0, 1, 2, 3, 5, 6], some 4)] [7] 8 (by kernel_rfl) (by kernel_rfl) (by kernel_rfl) (by kernel_rfl) ?_
        dsimp only [Q.wpSegsF, Q.picks, Q.pick]
        repeat (go_big_quiet_step (fail))
        refine wpQuiet_nil ?_
        go_wp2_with (go_at_call 57; refine (HD.out _).mono ?_; rintro e w1 ⟨rfl, hw1⟩; (rw [hw1]); clear hw1 w1)
        refine Q.ev_keep (Below.refl _ _) (Nat.le_refl _) ?_
        repeat (go_big_quiet_step (fail))
        refine wpQuiet_nil ?_
        have c0 := HC.out.drew.cat (i := 272 + i) (j := 276 + i) (by have := HJ'.out; omega) (by omega)
        have f0 := HC.out.drew.fz (276 + i)
        go_wp2_with fail
        refine NoPanic.normal ?_
        clear c0 f0
        go_wp2_with fail
        go_roundg k
        case measure => have := HJ'.out; omega
        case rel =>
          have hs := HC.out.drew.sat (i := 272 + i) (j := 276 + i) (by have := HJ'.out; omega) (by omega) (dbl i)
          rw [MM_set_tw HK.out boxT_len (HTl.out.trans HTw.out) HJ'.out.1, ← twT_get HJ'.out.1, fld_step (by rw [twT_len]; exact HTw.out.symm) (by rw [twT_len]; exact HJ'.out.1), twT_get HJ'.out.1] at hs
          exact ⟨i + 1, by go_num, Lib.hid (by have := HJ'.out; omega), Lib.hid hs, Lib.hid ((HG.out.trans (gdrew wr _)).trans (gset _ b _ _))⟩
      · obtain rfl : i = 256 := by have := HJ.out; omega
        clear hi HJ
        have hc := HC.out
        rw [show fld twT tw 256 = twT from by have := fld_all (new := twT) (old := tw) (by rw [twT_len]; exact HTw.out.symm); rw [twT_len] at this; exact this, ← kcp_zero key ws] at hc
        have HC2 := Lib.hid hc
        have HG2 := HG
        clear hc HC HG HTw
        go_wp2_with fail
        go_loopg [24] 6 (fun g v24 w' => ∃ i : Nat, v24 = .int .i64 (i : Int) ∧ Hid (i ≤ 4 ∧ 4 < g + i) ∧ Hid (CB b dn st made (MM key boxT twT (kcp key ws i)) tn w') ∧ Hid (w.grownBy w' (some b)))
        case atStart => exact ⟨0, rfl, Lib.hid ⟨by omega, by omega⟩, HC2, HG2⟩
        case round =>
          obtain ⟨i, rfl, HJ, HC, HG⟩ := hrel
          clear HC2 HG2
          cases gk with
          | zero => have := HJ.out; omega
          | succ k =>
            by_cases hi : i < 4
            · have HJ' := Lib.hid (show i < 4 ∧ 4 < (k + 1) + i from ⟨hi, HJ.out.2⟩)
              have z0 : (i : Int) < 4 := by omega
              have z1 : (0 : Int) ≤ (i : Int) := by omega
              have hkc := fun W => key_cut b i HJ'.out.1 W
              clear hi HJ
              go_wp2_with fail
              refine Q.wp_region_segsF none [] [0, 1, 2, 3, 4, 5, 6, 7, 8, 9, 10, 11] 12 (by kernel_rfl) (by kernel_rfl) (by kernel_rfl) (by kernel_rfl) ?_
              dsimp only [Q.wpSegsF, Q.picks, Q.pick]
              repeat (go_big_quiet_step (fail))
              refine wpQuiet_nil ?_
              clear hkc
              have hc := HC.out
              have h16 : ((key.drop (4 * i)).take 4).length = 4 := by rw [List.length_take, List.length_drop]; have := HK.out; have := HJ'.out; omega
              refine wpList_copy_own (P := Try.prog) rfl (.tmp 32) (.tmp 38) 41 41 rfl 5 Try.underlying41 info_u8s b (532 + i * 4) 4 4 ⟨b, 4 + 4 * i, none⟩ (16 - 4 * i) (16 - 4 * i) rfl rfl (CC dn st made (MM key boxT twT (kcp key ws i)) tn).toArray tC hc.blk (bys ((key.drop (4 * i)).take 4)) (by rw [bys_len, h16, min4 HJ'.out.1]) (key_src hc.drew HK.out HJ'.out.1) (by rw [bys_len, h16]; have hl := hc.len; have := HJ'.out; simp only [List.size_toArray]; unfold CC; simp only [List.length_append, List.length_cons, List.length_nil, bys_len, hl]; omega) (bys_one _) ?_
              have hr := hc.drew.row (o := 528 + 4 * i) (p := 532 + i * 4) (cs := (key.drop (4 * i)).take 4) (by rw [h16]; have := HJ'.out; omega) (by omega)
              rw [MM_sp_ws HK.out boxT_len twT_len, kcp_step HK.out HWs.out HJ'.out.1] at hr
              clear h16 hc
              refine wpl_at fun W3 hW3 => ?_
              have HR := Lib.hid (show CB b dn st made (MM key boxT twT (kcp key ws (i + 1))) tn W3 from by rw [hW3]; exact hr)
              have HRg := Lib.hid (show w.grownBy W3 (some b) from by rw [hW3]; exact (HG.out.trans (gdrew wr _)).trans (grown_setRow _ b _))
              clear hW3 HC HG hr
              go_wp2_with fail
              refine NoPanic.normal ?_
              go_wp2_with fail
              go_roundg k
              case measure => have := HJ'.out; omega
              case rel => exact ⟨i + 1, by go_num, Lib.hid (by have := HJ'.out; omega), HR, HRg⟩
            · obtain rfl : i = 4 := by have := HJ.out; omega
              clear hi HJ
              have hc := HC.out
              rw [kcp_all HK.out] at hc
              have HC2 := Lib.hid hc
              have HG2 := HG
              clear hc HC HG
              go_wp2_with fail
              go_loopg [4, 5] 42 (fun g v4 v5 w' => ∃ n : Nat, v4 = .int .u8 (pw ((n + 3) / 4) : Nat) ∧ v5 = .int .i64 ((n : Int) + 4) ∧ Hid (n ≤ 40 ∧ 40 < g + n) ∧ Hid (CB b dn st made (MM key boxT twT (wP key ws n)) tn w') ∧ Hid (w.grownBy w' (some b)))
              case atStart => exact ⟨0, rfl, rfl, Lib.hid ⟨by omega, by omega⟩, HC2, HG2⟩
              case round =>
                obtain ⟨n, rfl, rfl, HJ, HC, HG⟩ := hrel
                clear HC2 HG2
                cases gk with
                | zero => have := HJ.out; omega
                | succ k =>
                  by_cases hi : n < 40
                  · have HJ' := Lib.hid (show n < 40 ∧ 40 < (k + 1) + n from ⟨hi, HJ.out.2⟩)
                    have z0 : (n : Int) < 40 := by omega
                    have z1 : (0 : Int) ≤ (n : Int) := by omega
                    clear hi HJ
                    obtain ⟨a0, e0⟩ : ∃ x, (WS key n).getD (4 * (n + 3)) 0 = x := ⟨_, rfl⟩
                    obtain ⟨a1, e1⟩ : ∃ x, (WS key n).getD (4 * (n + 3) + 1) 0 = x := ⟨_, rfl⟩
                    obtain ⟨a2, e2⟩ : ∃ x, (WS key n).getD (4 * (n + 3) + 2) 0 = x := ⟨_, rfl⟩
                    obtain ⟨a3, e3⟩ : ∃ x, (WS key n).getD (4 * (n + 3) + 3) 0 = x := ⟨_, rfl⟩
                    have HR4 := Lib.hid (wrd_range HC.out HK.out (i := 4 * (n + 3)) (o := 532 + (n + 3) * 4) (by have := HJ'.out; omega) (by omega) ((wP_get HK.out (by omega)).trans e0) ((wP_get HK.out (by omega)).trans e1) ((wP_get HK.out (by omega)).trans e2) ((wP_get HK.out (by omega)).trans e3))
                    have HA8 := Lib.hid (show a0 < 256 ∧ a1 < 256 ∧ a2 < 256 ∧ a3 < 256 from by rw [← e0, ← e1, ← e2, ← e3]; exact ⟨getD_lt0 (by decide) _ (WS_lt HK8.out n), getD_lt0 (by decide) _ (WS_lt HK8.out n), getD_lt0 (by decide) _ (WS_lt HK8.out n), getD_lt0 (by decide) _ (WS_lt HK8.out n)⟩)
                    have HE := Lib.hid (And.intro e0 (And.intro e1 (And.intro e2 e3)))
                    clear e0 e1 e2 e3
                    by_cases h4 : n % 4 = 0
                    · have m1 : (n : Int) % 4 = 0 := by omega
                      have m2 : ((n : Int) + 4) % 4 = 0 := by omega
                      have m3 : ((n : Int) + 4).tmod 4 = 0 := by rw [Int.tmod_eq_emod_of_nonneg (by omega)]; omega
                      have HTT := Lib.hid (show tmpW (WS key n) (n + 4) = [bxv a1 ^^^ pw ((n + 3) / 4), bxv a2, bxv a3, bxv a0] from by
                        rw [tmpW, if_pos (by omega), show n + 4 - 1 = n + 3 from by omega, HE.out.1, HE.out.2.1, HE.out.2.2.1, HE.out.2.2.2])
                      have HPW := Lib.hid (show pw ((n + 1 + 3) / 4) = dbl (pw ((n + 3) / 4)) from by rw [show (n + 1 + 3) / 4 = (n + 3) / 4 + 1 from by omega, pw])
                      clear h4
                      go_wp2_with (first
                        | (refine load_midA b (532 + (n + 3) * 4) [a0, a1, a2, a3] rfl rfl rfl HR4.out Try.underlying36 info_w4 ?_)
                        | (refine store_ab .u8 wr.heap.size [0, 0, 0, 0] [a0, a1, a2, a3] rfl rfl rfl rfl rfl (AB.mk wr .u8 _ _) info_w4 rfl ?_; intro w3 h3 hg3; (have HT := Lib.hid h3); (have HB3 := Lib.hid (below_new hg3)); clear h3 hg3))
                      have HC3 := Lib.hid (show CB b dn st made (MM key boxT twT (wP key ws n)) tn w3 from HC.out.below HB3.out.1)
                      have HG3 := Lib.hid (HG.out.trans (grown_below HB3.out.1 (some b)))
                      have Hne := Lib.hid HC.out.lt
                      have HGs := Lib.hid HG.out.size
                      clear HC HG HR4 HB3
                      generalize wr.heap.size = g6 at *
                      obtain ⟨A0, A1, A2, A3⟩ := HA8.out
                      have s0 : w3.cell? ⟨g6, 0, none⟩ = some (.int .u8 (a0 : Nat)) := HT.out.cell (i := 0) (show 0 < 4 by decide)
                      have s1 : w3.cell? ⟨g6, 1, none⟩ = some (.int .u8 (a1 : Nat)) := HT.out.cell (i := 1) (show 1 < 4 by decide)
                      have s2 : w3.cell? ⟨g6, 2, none⟩ = some (.int .u8 (a2 : Nat)) := HT.out.cell (i := 2) (show 2 < 4 by decide)
                      have s3 : w3.cell? ⟨g6, 3, none⟩ = some (.int .u8 (a3 : Nat)) := HT.out.cell (i := 3) (show 3 < 4 by decide)
                      have q0 := gw HT.out.lt s0
                      have q1 := gw HT.out.lt s1
                      have q2 := gw HT.out.lt s2
                      have q3 := gw HT.out.lt s3
                      have b0 := gw HC3.out.lt (box_cell HC3.out HK.out A0)
                      have b1 := gw HC3.out.lt (box_cell HC3.out HK.out A1)
                      have b2 := gw HC3.out.lt (box_cell HC3.out HK.out A2)
                      have b3 := gw HC3.out.lt (box_cell HC3.out HK.out A3)
                      have x1 := xor_u8 (bxv a1) (pw ((n + 3) / 4)) (bxv_lt _) (pw_lt _)
                      have B0 : (a0 : Int) < 256 := by omega
                      have B1 : (a1 : Int) < 256 := by omega
                      have B2 : (a2 : Int) < 256 := by omega
                      have B3 : (a3 : Int) < 256 := by omega
                      clear A0 A1 A2 A3 s0 s1 s2 s3
                      refine Q.wp_region_segsF none [] [0, 1, 2, 3, 4, 5, 6, 7, 8, 9, 10, 11, 12, 13, 14, 15, 16, 17, 18, 19, 20, 21, 22, 23, 24, 25, 26, 27, 28, 29, 30] 31 (by kernel_rfl) (by kernel_rfl) (by kernel_rfl) (by kernel_rfl) ?_
                      dsimp only [Q.wpSegsF, Q.picks, Q.pick]
                      repeat (go_big_quiet_step (fail))
                      refine wpQuiet_nil ?_
                      clear q0 q1 q2 q3 b0 b1 b2 b3 x1 B0 B1 B2 B3
                      refine store_ab .u8 g6 [a0, a1, a2, a3] [bxv a1 ^^^ pw ((n + 3) / 4), bxv a2, bxv a3, bxv a0] rfl rfl rfl rfl rfl HT.out.drew info_w4 rfl ?_
                      intro w4 h4 hg4
                      have HT3 := Lib.hid (show AB .u8 36 g6 (tmpW (WS key n) (n + 4)) w4 from by rw [HTT.out]; exact h4)
                      have HC5 := Lib.hid (HC3.out.drew.grown hg4 (by have := Hne.out; omega))
                      have HG5 := Lib.hid (grown_up (HG3.out.trans (gdrew w3 _)) hg4 HGs.out)
                      clear HC3 HG3 h4 hg4 HT HTT
                      have hcw := HC5.out
                      rw [← wQ_zero] at hcw
                      have HC3 := Lib.hid hcw
                      have HG3 := HG5
                      clear hcw HC5 HG5
                      refine NoPanic.normal ?_
                      have HD := Lib.hid (fun W => double_any (pw ((n + 3) / 4)) W (pw_lt _))
                      go_wp2_with (go_at_call 57; refine (HD.out _).mono ?_; rintro e w1 ⟨rfl, hw1⟩; (rw [hw1]); clear hw1 w1 HD)
                      go_loopg [88] 6 (fun g v88 w' => ∃ i : Nat, v88 = .int .i64 (i : Int) ∧ Hid (i ≤ 4 ∧ 4 < g + i) ∧ Hid (CB b dn st made (MM key boxT twT (wQ key ws n i)) tn w') ∧ Hid (AB .u8 36 g6 (tmpW (WS key n) (n + 4)) w') ∧ Hid (w.grownBy w' (some b)))
                      case atStart => exact ⟨0, rfl, Lib.hid ⟨by omega, by omega⟩, HC3, HT3, HG3⟩
                      case round =>
                        obtain ⟨i, rfl, HI, HCi, HTi, HGi⟩ := hrel
                        clear HC3 HT3 HG3
                        cases gk with
                        | zero => have := HI.out; omega
                        | succ k2 =>
                          by_cases hi : i < 4
                          · have HI' := Lib.hid (show i < 4 ∧ 4 < (k2 + 1) + i from ⟨hi, HI.out.2⟩)
                            have i0 : (i : Int) < 4 := by omega
                            have i1 : (0 : Int) ≤ (i : Int) := by omega
                            clear hi HI
                            obtain ⟨xa, hxa⟩ : ∃ xa, xa = (WS key n).getD (4 * n + i) 0 := ⟨_, rfl⟩
                            obtain ⟨xb, hxb⟩ : ∃ xb, xb = (tmpW (WS key n) (n + 4)).getD i 0 := ⟨_, rfl⟩
                            have Hxa := Lib.hid hxa
                            have Hxb := Lib.hid hxb
                            have c1 := gw HCi.out.lt (wrd_cell HCi.out HK.out (i := 4 * n + i) (j := 532 + n * 4 + i) (x := xa) (by have := HI'.out; have := HJ'.out; omega) (by omega) ((wQ_get HK.out i (by have := HI'.out; omega)).trans hxa.symm))
                            have c2 := gw HTi.out.lt (show wr.cell? ⟨g6, i, none⟩ = some (.int .u8 (xb : Nat)) from by rw [hxb]; exact HTi.out.cell (by rw [tmpW_len]; exact HI'.out.1))
                            have x1 := xor_u8 xa xb (by rw [hxa]; exact getD_lt0 (by decide) _ (WS_lt HK8.out n)) (by rw [hxb]; exact getD_lt0 (by decide) _ (tmpW_lt (WS_lt HK8.out n) _))
                            clear hxa hxb
                            go_wp2_with fail
                            refine Q.wp_region_segsF none [] [0, 1, 2, 3, 4, 5, 6, 7, 8, 9, 10, 11, 12, 13, 14, 15, 16, 17, 18, 19] 20 (by kernel_rfl) (by kernel_rfl) (by kernel_rfl) (by kernel_rfl) ?_
                            dsimp only [Q.wpSegsF, Q.picks, Q.pick]
                            repeat (go_big_quiet_step (fail))
                            refine wpQuiet_nil ?_
                            clear c1 c2
                            have c1 := HCi.out.drew.cat (i := 528 + (16 + 4 * n + i)) (j := 532 + (n + 4) * 4 + i) (by have := HI'.out; have := HJ'.out; omega) (by omega)
                            have f1 := HCi.out.drew.fz (532 + (n + 4) * 4 + i)
                            go_wp2_with fail
                            refine NoPanic.normal ?_
                            clear c1 f1
                            go_wp2_with fail
                            go_roundg k2
                            case measure => have := HI'.out; omega
                            case rel =>
                              have hs := HCi.out.drew.sat (i := 528 + (16 + 4 * n + i)) (j := 532 + (n + 4) * 4 + i) (by have := HI'.out; have := HJ'.out; omega) (by omega) (xa ^^^ xb)
                              rw [MM_set_ws HK.out boxT_len twT_len, Hxa.out, Hxb.out, ← nxtW_get _ n HI'.out.1, wQ_set HK.out HWs.out HJ'.out.1 HI'.out.1, nxtW_get _ n HI'.out.1, ← Hxa.out, ← Hxb.out] at hs
                              exact ⟨i + 1, by go_num, Lib.hid (by have := HI'.out; omega), Lib.hid hs, Lib.hid (HTi.out.drew.other (by have := Hne.out; omega)), Lib.hid ((HGi.out.trans (gdrew wr _)).trans (gset _ b _ _))⟩
                          · obtain rfl : i = 4 := by have := HI.out; omega
                            clear hi HI
                            have HC4 := Lib.hid (show CB b dn st made (MM key boxT twT (wP key ws (n + 1))) tn wr from by have := HCi.out; rwa [wQ_four] at this)
                            clear HCi HTi
                            go_wp2_with fail
                            go_roundg k
                            case measure => have := HJ'.out; omega
                            case rel => exact ⟨n + 1, by rw [HPW.out], by go_num, Lib.hid (by have := HJ'.out; omega), HC4, HGi⟩
                    · have m1 : ¬ (n : Int) % 4 = 0 := by omega
                      have m2 : ¬ ((n : Int) + 4) % 4 = 0 := by omega
                      have m3 : ¬ ((n : Int) + 4).tmod 4 = 0 := by rw [Int.tmod_eq_emod_of_nonneg (by omega)]; omega
                      have HTT := Lib.hid (show tmpW (WS key n) (n + 4) = [a0, a1, a2, a3] from by
                        rw [tmpW, if_neg (by omega), show n + 4 - 1 = n + 3 from by omega, HE.out.1, HE.out.2.1, HE.out.2.2.1, HE.out.2.2.2])
                      have HPW := Lib.hid (show pw ((n + 1 + 3) / 4) = pw ((n + 3) / 4) from by rw [show (n + 1 + 3) / 4 = (n + 3) / 4 from by omega])
                      clear h4
                      go_wp2_with (first
                        | (refine load_midA b (532 + (n + 3) * 4) [a0, a1, a2, a3] rfl rfl rfl HR4.out Try.underlying36 info_w4 ?_)
                        | (refine store_ab .u8 wr.heap.size [0, 0, 0, 0] [a0, a1, a2, a3] rfl rfl rfl rfl rfl (AB.mk wr .u8 _ _) info_w4 rfl ?_; intro w3 h3 hg3; (have HT := Lib.hid h3); (have HB3 := Lib.hid (below_new hg3)); clear h3 hg3))
                      have HC4 := Lib.hid (show CB b dn st made (MM key boxT twT (wP key ws n)) tn w3 from HC.out.below HB3.out.1)
                      have HG3 := Lib.hid (HG.out.trans (grown_below HB3.out.1 (some b)))
                      have Hne := Lib.hid HC.out.lt
                      clear HC HG HR4 HB3
                      generalize wr.heap.size = g6 at *
                      have HT3 := Lib.hid (show AB .u8 36 g6 (tmpW (WS key n) (n + 4)) w3 from by rw [HTT.out]; exact HT.out)
                      have hcw := HC4.out
                      rw [← wQ_zero] at hcw
                      have HC3 := Lib.hid hcw
                      clear hcw HC4 HT HTT m1 m2 m3
                      go_loopg [88] 6 (fun g v88 w' => ∃ i : Nat, v88 = .int .i64 (i : Int) ∧ Hid (i ≤ 4 ∧ 4 < g + i) ∧ Hid (CB b dn st made (MM key boxT twT (wQ key ws n i)) tn w') ∧ Hid (AB .u8 36 g6 (tmpW (WS key n) (n + 4)) w') ∧ Hid (w.grownBy w' (some b)))
                      case atStart => exact ⟨0, rfl, Lib.hid ⟨by omega, by omega⟩, HC3, HT3, HG3⟩
                      case round =>
                        obtain ⟨i, rfl, HI, HCi, HTi, HGi⟩ := hrel
                        clear HC3 HT3 HG3
                        cases gk with
                        | zero => have := HI.out; omega
                        | succ k2 =>
                          by_cases hi : i < 4
                          · have HI' := Lib.hid (show i < 4 ∧ 4 < (k2 + 1) + i from ⟨hi, HI.out.2⟩)
                            have i0 : (i : Int) < 4 := by omega
                            have i1 : (0 : Int) ≤ (i : Int) := by omega
                            clear hi HI
                            obtain ⟨xa, hxa⟩ : ∃ xa, xa = (WS key n).getD (4 * n + i) 0 := ⟨_, rfl⟩
                            obtain ⟨xb, hxb⟩ : ∃ xb, xb = (tmpW (WS key n) (n + 4)).getD i 0 := ⟨_, rfl⟩
                            have Hxa := Lib.hid hxa
                            have Hxb := Lib.hid hxb
                            have c1 := gw HCi.out.lt (wrd_cell HCi.out HK.out (i := 4 * n + i) (j := 532 + n * 4 + i) (x := xa) (by have := HI'.out; have := HJ'.out; omega) (by omega) ((wQ_get HK.out i (by have := HI'.out; omega)).trans hxa.symm))
                            have c2 := gw HTi.out.lt (show wr.cell? ⟨g6, i, none⟩ = some (.int .u8 (xb : Nat)) from by rw [hxb]; exact HTi.out.cell (by rw [tmpW_len]; exact HI'.out.1))
                            have x1 := xor_u8 xa xb (by rw [hxa]; exact getD_lt0 (by decide) _ (WS_lt HK8.out n)) (by rw [hxb]; exact getD_lt0 (by decide) _ (tmpW_lt (WS_lt HK8.out n) _))
                            clear hxa hxb
                            go_wp2_with fail
                            refine Q.wp_region_segsF none [] [0, 1, 2, 3, 4, 5, 6, 7, 8, 9, 10, 11, 12, 13, 14, 15, 16, 17, 18, 19] 20 (by kernel_rfl) (by kernel_rfl) (by kernel_rfl) (by kernel_rfl) ?_
                            dsimp only [Q.wpSegsF, Q.picks, Q.pick]
                            repeat (go_big_quiet_step (fail))
                            refine wpQuiet_nil ?_
                            clear c1 c2
                            have c1 := HCi.out.drew.cat (i := 528 + (16 + 4 * n + i)) (j := 532 + (n + 4) * 4 + i) (by have := HI'.out; have := HJ'.out; omega) (by omega)
                            have f1 := HCi.out.drew.fz (532 + (n + 4) * 4 + i)
                            go_wp2_with fail
                            refine NoPanic.normal ?_
                            clear c1 f1
                            go_wp2_with fail
                            go_roundg k2
                            case measure => have := HI'.out; omega
                            case rel =>
                              have hs := HCi.out.drew.sat (i := 528 + (16 + 4 * n + i)) (j := 532 + (n + 4) * 4 + i) (by have := HI'.out; have := HJ'.out; omega) (by omega) (xa ^^^ xb)
                              rw [MM_set_ws HK.out boxT_len twT_len, Hxa.out, Hxb.out, ← nxtW_get _ n HI'.out.1, wQ_set HK.out HWs.out HJ'.out.1 HI'.out.1, nxtW_get _ n HI'.out.1, ← Hxa.out, ← Hxb.out] at hs
                              exact ⟨i + 1, by go_num, Lib.hid (by have := HI'.out; omega), Lib.hid hs, Lib.hid (HTi.out.drew.other (by have := Hne.out; omega)), Lib.hid ((HGi.out.trans (gdrew wr _)).trans (gset _ b _ _))⟩
                          · obtain rfl : i = 4 := by have := HI.out; omega
                            clear hi HI
                            have HC4 := Lib.hid (show CB b dn st made (MM key boxT twT (wP key ws (n + 1))) tn wr from by have := HCi.out; rwa [wQ_four] at this)
                            clear HCi HTi
                            go_wp2_with fail
                            go_roundg k
                            case measure => have := HJ'.out; omega
                            case rel => exact ⟨n + 1, by rw [HPW.out], by go_num, Lib.hid (by have := HJ'.out; omega), HC4, HGi⟩
                  · obtain rfl : n = 40 := by have := HJ.out; omega
                    clear hi HJ
                    have hc := HC.out
                    rw [wP_all HK.out HWs.out] at hc
                    have HC2 := Lib.hid hc
                    go_wp2_with fail
                    go_end0
                    exact ⟨rfl, HC2.out, HG.out⟩
end Go.Proofs.Ytblnclooobggnaa.A

namespace Go.Proofs.Ytblnclooobggnaa.A
open Go.RowKit Go.Proofs.Ytblnclooobggnaa.L Go.Proofs.Ytblnclooobggnaa.N Go.Proofs.YtblnclooobggnaaW.PrintWords

abbrev fillV (b : Nat) : Value := .func (.func 59) #[.pointer (some ⟨b, 0, none⟩)] #[]
set_option maxRecDepth 100000 in
set_option maxHeartbeats 1600000 in
theorem slow_any (b : Nat) (tn : Int) (key box tw ws : List Nat) (w : World) (h : CB b 0 0 true (MM key box tw ws) tn w) (hk : key.length = 16) (hb : box.length = 256) (ht : tw.length = 256) (hw : ws.length = 176) (hk8 : ∀ x ∈ key, x < 256) :
    Calls Try.prog 75 #[.pointer (some ⟨b, 0, none⟩), fillV b] w fun e w' => e = .returned (.tuple #[]) ∧ CB b 1 0 true (MF key) tn w' ∧ w.grownBy w' (some b) := by
  have h1 := h.s1 1
  have hl := run_call_load (P := Try.prog) Try.func82 (by kernel_rfl) (by kernel_rfl) (by kernel_rfl) .u32 (by kernel_rfl) h1.c0
  have hnot : ∀ (x : Bool) (w : World), (Op.unary .not (.bool x)).run Try.prog w = .ok (.bool (!x)) w := fun _ _ => rfl
  have HLk := Lib.hid (lock_free ⟨b, 1, none⟩ w h.c1 (h.fz 1))
  have HF := Lib.hid (fill_any b 0 1 tn true key box tw ws _ h1 hk hb ht hw hk8)
  have HG := Lib.hid (gset w b 1 (.int .i32 1))
  clear h h1 hk hb ht hw hk8
  go_enter_defers Try.func75, Try.ntmps75
  go_wp2_with (first
    | (go_at_call 83; refine HLk.out.mono ?_; rintro e w' ⟨rfl, rfl⟩)
    | (go_at_call 74; go_in)
    | (go_at_call 59; refine HF.out.mono ?_; rintro e w1 ⟨rfl, hs1, hg1⟩; (have HS1 := Lib.hid hs1); (have HG1 := Lib.hid hg1); clear hs1 hg1))
  refine leaves_cons (f := 85) (args := #[.pointer (some ⟨b, 0, none⟩), .bool true]) (by simp) (by simp [go_sem]) ?_
  refine (store_deferred ⟨b, 0, none⟩ (.int .u32 0) .returning _ HS1.out.c0 (HS1.out.fz 0)).mono ?_
  rintro e u' w'' ⟨rfl, rfl, rfl⟩
  have HS2 : CB b 1 1 true (MF key) tn (w1.drew.setCell ⟨b, 0, none⟩ (.int .u32 1)) := (HS1.out.keep (w1 := w1.drew) rfl).s0 1
  refine leaves_cons (f := 84) (args := #[.pointer (some ⟨b, 1, none⟩)]) (by simp [settle]) (by simp [go_sem]) ?_
  refine (unlock_deferred ⟨b, 1, none⟩ _ _ HS2.c1 (HS2.fz 1)).mono ?_
  rintro e u' w'' ⟨rfl, rfl, rfl⟩
  have HS3 := HS2.s1 0
  have HG3 := ((HG.out.trans HG1.out).trans (gdrew w1 _)).trans ((gset w1.drew b 0 (.int .u32 1)).trans (gset _ b 1 (.int .i32 0)))
  simp [Leaves, settle, results, Try.results75]
  exact ⟨HS3, HG3⟩
set_option maxRecDepth 100000 in
set_option maxHeartbeats 1600000 in
theorem do_first (b : Nat) (tn : Int) (key box tw ws : List Nat) (w : World) (h : CB b 0 0 true (MM key box tw ws) tn w) (hk : key.length = 16) (hb : box.length = 256) (ht : tw.length = 256) (hw : ws.length = 176) (hk8 : ∀ x ∈ key, x < 256) :
    Calls Try.prog 58 #[.pointer (some ⟨b, 0, none⟩), fillV b] w fun e w' => e = .returned (.tuple #[]) ∧ CB b 1 0 true (MF key) tn w' ∧ w.grownBy w' (some b) := by
  have hl := run_call_load (P := Try.prog) Try.func82 (by kernel_rfl) (by kernel_rfl) (by kernel_rfl) .u32 (by kernel_rfl) h.c0
  have hnot : ∀ (x : Bool) (w : World), (Op.unary .not (.bool x)).run Try.prog w = .ok (.bool (!x)) w := fun _ _ => rfl
  have HS := Lib.hid (slow_any b tn key box tw ws w h hk hb ht hw hk8)
  clear h hk hb ht hw hk8
  go_enter Try.func58, Try.ntmps58
  go_wp2_with (first | (go_at_call 75; refine HS.out.mono ?_; rintro e w' ⟨rfl, hs, hg⟩; (have HS1 := Lib.hid hs); (have HG1 := Lib.hid hg); clear hs hg) | (go_at_call 74; go_in))
  go_end0
  exact ⟨rfl, HS1.out, HG1.out⟩
set_option maxRecDepth 100000 in
set_option maxHeartbeats 1600000 in
theorem do_done (b : Nat) (st tn : Int) (made : Bool) (M : List Nat) (fv : Value) (w : World) (h : CB b 1 st made M tn w) :
    Calls Try.prog 58 #[.pointer (some ⟨b, 0, none⟩), fv] w fun e w' => e = .returned (.tuple #[]) ∧ w' = w := by
  have hl := run_call_load (P := Try.prog) Try.func82 (by kernel_rfl) (by kernel_rfl) (by kernel_rfl) .u32 (by kernel_rfl) h.c0
  have hnot : ∀ (x : Bool) (w : World), (Op.unary .not (.bool x)).run Try.prog w = .ok (.bool (!x)) w := fun _ _ => rfl
  clear h
  go_enter Try.func58, Try.ntmps58
  go_wp2_with (first | (go_at_call 74; go_in))
  go_end0
  exact ⟨rfl, rfl⟩

def z176 : List Nat := List.replicate 176 0
/-- a cipher that New made -/
def CU (b : Nat) (key : List Nat) (tn : Int) (w : World) : Prop := CB b 1 0 true (MF key) tn w ∨ CB b 0 0 true (MM key z256 z256 z176) tn w
section
variable {b : Nat} {key : List Nat} {tn : Int} {w w1 : World}
theorem CU.keep (h : CU b key tn w) (hm : w1.heap[b]? = w.heap[b]?) : CU b key tn w1 := h.elim (fun h => .inl (h.keep hm)) (fun h => .inr (h.keep hm))
theorem CU.lt (h : CU b key tn w) : b < w.heap.size := h.elim (fun h => h.lt) (fun h => h.lt)
theorem CU.below (h : CU b key tn w) (hb : Below w.heap.size w w1) : CU b key tn w1 := h.keep (hb.block b h.lt)
theorem CU.made (h : CU b key tn w) : w.cell? ⟨b, 3, none⟩ = some (.bool true) := h.elim (fun h => h.c3) (fun h => h.c3)
theorem CU.turns (h : CU b key tn w) : w.cell? ⟨b, 708, none⟩ = some (.int .i64 tn) := h.elim (fun h => h.ct) (fun h => h.ct)
theorem CU.blk (h : CU b key tn w) : ∃ cs : List Value, w.heap[b]? = some (.cells cs.toArray tC (0, 0)) := h.elim (fun h => ⟨_, h.blk⟩) (fun h => ⟨_, h.blk⟩)
end
theorem once_any (b : Nat) (tn : Int) (key : List Nat) (w : World) (h : CU b key tn w) (hk : key.length = 16) (hk8 : ∀ x ∈ key, x < 256) :
    Calls Try.prog 58 #[.pointer (some ⟨b, 0, none⟩), fillV b] w fun e w' => e = .returned (.tuple #[]) ∧ CB b 1 0 true (MF key) tn w' ∧ w.grownBy w' (some b) := by
  rcases h with h | h
  · exact (do_done b 0 tn true _ _ w h).mono fun e w' ⟨h1, h2⟩ => ⟨h1, h2 ▸ h, h2 ▸ World.grownBy.refl _ _⟩
  · exact do_first b tn key _ _ _ w h hk (List.length_replicate) (List.length_replicate) (List.length_replicate) hk8
set_option maxRecDepth 100000 in
set_option maxHeartbeats 1600000 in
theorem ready_any (b : Nat) (tn : Int) (key : List Nat) (w : World) (h : CU b key tn w) (hk : key.length = 16) (hk8 : ∀ x ∈ key, x < 256) :
    Calls Try.prog 37 #[.pointer (some ⟨b, 0, none⟩)] w fun e w' => e = .returned (.bool true) ∧ CB b 1 0 true (MF key) tn w' ∧ w.grownBy w' (some b) := by
  have hmf : ∀ (fn : Fn) (first cap : Array Value) (w : World), (Instr.makeFunc fn first cap).run Try.prog w = .ok (.func fn first cap) w := fun _ _ _ _ => rfl
  have HO := Lib.hid (once_any b tn key w h hk hk8)
  have hc := h.made
  clear h hk hk8
  go_enter Try.func37, Try.ntmps37
  go_wp2_with fail
  refine HO.out.mono ?_
  rintro e w1 ⟨rfl, hs1, hg1⟩
  have HS1 := Lib.hid hs1
  have HG1 := Lib.hid hg1
  clear hs1 hg1 HO hc
  go_wp2_with fail
  go_ret
  exact ⟨rfl, HS1.out, HG1.out⟩
set_option maxRecDepth 100000 in
theorem ready_nil (w : World) : Calls Try.prog 37 #[.pointer none] w fun e w' => e = .returned (.bool false) ∧ w' = w := by
  go_enter Try.func37, Try.ntmps37
  go_wp2_with fail
  go_ret
  exact ⟨rfl, rfl⟩
set_option maxRecDepth 100000 in
theorem ready_zero (b : Nat) (w : World) (hc : w.cell? ⟨b, 3, none⟩ = some (.bool false)) : Calls Try.prog 37 #[.pointer (some ⟨b, 0, none⟩)] w fun e w' => e = .returned (.bool false) ∧ w' = w := by
  go_enter Try.func37, Try.ntmps37
  go_wp2_with fail
  go_ret
  exact ⟨rfl, rfl⟩
set_option maxRecDepth 100000 in
set_option maxHeartbeats 800000 in
theorem add_any (b : Nat) (dn st tn : Int) (made : Bool) (M : List Nat) (w : World) (h : CB b dn st made M tn w) (hr : 0 ≤ tn ∧ tn < 4611686018427387904) :
    Calls Try.prog 38 #[.pointer (some ⟨b, 708, none⟩), .int .i64 1] w fun e w' => e = .returned (.int .i64 (tn + 1)) ∧ w' = w.setCell ⟨b, 708, none⟩ (.int .i64 (tn + 1)) := by
  have hadd := run_call_add (P := Try.prog) Try.func60 (by kernel_rfl) (by kernel_rfl) (by kernel_rfl) .i64 (by kernel_rfl) (y := 1) (s := tn + 1) h.ct (h.fz 708) (by
    have : IntKind.i64.wrap (tn + 1) = tn + 1 := IntWalk.i64_in _ (by omega)
    simp [go_sem, this])
  clear h
  go_enter Try.func38, Try.ntmps38
  go_wp2
  go_ret
  exact ⟨rfl, rfl⟩
set_option maxRecDepth 100000 in
set_option maxHeartbeats 800000 in
theorem turns_at (b : Nat) (tn : Int) (w : World) (hc : w.cell? ⟨b, 708, none⟩ = some (.int .i64 tn)) : Calls Try.prog 22 #[.pointer (some ⟨b, 0, none⟩)] w fun e w' => e = .returned (.int .i64 tn) ∧ w' = w := by
  have hl := run_call_load (P := Try.prog) Try.func61 (by kernel_rfl) (by kernel_rfl) (by kernel_rfl) .i64 (by kernel_rfl) hc
  go_enter Try.func22, Try.ntmps22
  go_wp2_with (first | (go_at_call 40; go_in))
  go_ret
  exact ⟨rfl, rfl⟩
theorem turns_nil (w : World) : Calls Try.prog 22 #[.pointer none] w fun e w' => e = .returned (.int .i64 0) ∧ w' = w := by
  go_enter Try.func22, Try.ntmps22
  go_wp2
  go_ret
  exact ⟨rfl, rfl⟩
end Go.Proofs.Ytblnclooobggnaa.A

namespace Go.Proofs.Ytblnclooobggnaa.A
open Go.RowKit Go.Proofs.Ytblnclooobggnaa.L Go.Proofs.Ytblnclooobggnaa.N Go.Proofs.YtblnclooobggnaaW.PrintWords

theorem len16 {key : List Nat} (h : key.length = 16) : ∃ k0 k1 k2 k3 k4 k5 k6 k7 k8 k9 k10 k11 k12 k13 k14 k15, key = [k0, k1, k2, k3, k4, k5, k6, k7, k8, k9, k10, k11, k12, k13, k14, k15] := by
  match key, h with
  | [k0, k1, k2, k3, k4, k5, k6, k7, k8, k9, k10, k11, k12, k13, k14, k15], _ => exact ⟨k0, k1, k2, k3, k4, k5, k6, k7, k8, k9, k10, k11, k12, k13, k14, k15, rfl⟩
theorem build_new {key : List Nat} (h : key.length = 16) (W : World) : (Instr.build tC #[(1, .bool true), (2, .agg (arr .u8 key))]).run Try.prog W = .ok (.agg (CC 0 0 true (MM key z256 z256 z176) 0).toArray) W := by
  obtain ⟨k0, k1, k2, k3, k4, k5, k6, k7, k8, k9, k10, k11, k12, k13, k14, k15, rfl⟩ := len16 h
  kernel_rfl
theorem new_cells {key : List Nat} (h : key.length = 16) : Array.foldl (fun cs x => cs.setIfInBounds (4 + x.snd) x.fst) (Try.zeroCells59.setIfInBounds 3 (Value.bool true)) (arr IntKind.u8 key).zipIdx 0 16 = (CC 0 0 true (MM key z256 z256 z176) 0).toArray := by
  obtain ⟨k0, k1, k2, k3, k4, k5, k6, k7, k8, k9, k10, k11, k12, k13, k14, k15, rfl⟩ := len16 h
  kernel_rfl
theorem heap_alloc_new' (w : World) (o : Obj) {b : Nat} (hb : b = w.heap.size) : (w.alloc o).heap[b]? = some o := by rw [hb]; exact heap_alloc_new w o
theorem info_key : (Try.prog.info? 27).map (·.size) = some 16 := by kernel_rfl
theorem MM0_len {key : List Nat} (h : key.length = 16) : (MM key z256 z256 z176).length = 704 := MM_len h List.length_replicate List.length_replicate List.length_replicate
theorem build_at {P : Program} {ops : Array Oper} {Q : Exit → Act → World → Prop} {rest : List Oper} {a : Act} {w : World} {o : Oper} {t : TypeId} {parts : Array (Nat × Operand)} (ps : Array (Nat × Value)) (v : Value) (hgd : o.guard = none) (ho : o.op = .build t parts) (hp : (parts.map fun (i, x) => (i, a.eval x)) = ps) (hr : (Instr.build t ps).run P w = .ok v w)
    (h : wpList P ops Q rest (a.put o.dst v) w) : wpList P ops Q (o :: rest) a w := by
  refine wpList_plain hgd fun K hK => ?_
  unfold Oper.wp
  have he : (execOp a.eval o).run P w = .ok (.value v) w := by
    simp only [execOp, ho, hp, Sem.run_bind, Sem.run_pure, hr, Result.andThen]
  rw [he]
  exact hK _ _ h
set_option maxRecDepth 100000 in
set_option maxHeartbeats 1600000 in
theorem new_any (key : List Nat) (w : World) (hk : key.length = 16) : Calls Try.prog 16 #[.agg (arr .u8 key)] w fun e w' => ∃ b, e = .returned (.pointer (some ⟨b, 0, none⟩)) ∧ w.heap.size ≤ b ∧ CU b key 0 w' ∧ Below w.heap.size w w' := by
  have hsz : (arr .u8 key).size = 16 := by rw [arr_size]; exact hk
  have HK := Lib.hid hk
  clear hk
  go_enter Try.func16, Try.ntmps16
  go_wp2_with (refine load_ab .u8 w.heap.size key rfl rfl rfl (AB.mk w .u8 _ key) Try.underlying27 (by rw [HK.out]; exact info_key) ?_)
  refine bodyPost_ret (v := .pointer (some ⟨w.heap.size + 1, 0, none⟩)) (by simp [results, Try.results16]) rfl ⟨_, rfl, Nat.le_succ _, .inr ⟨?_, MM0_len HK.out⟩, ?_⟩
  · refine (heap_alloc_new' _ _ (by simp)).trans ?_
    rw [← new_cells HK.out]
  · exact ((Below.refl _ _).alloc (Nat.le_refl _) _).alloc (by simp) _
def mixB (a : List Nat) (i : Nat) : Nat := (a.getD i 0 ^^^ (((a.getD 0 0 ^^^ a.getD 1 0) ^^^ a.getD 2 0) ^^^ a.getD 3 0)) ^^^ dbl (a.getD i 0 ^^^ a.getD ((i + 1) % 4) 0)
def mixN (a : List Nat) : List Nat := (List.range 4).map (mixB a)
theorem mixN_len (a : List Nat) : (mixN a).length = 4 := by simp [mixN]
theorem mixN_get (a : List Nat) {i : Nat} (h : i < 4) : (mixN a).getD i 0 = mixB a i := by
  unfold mixN
  rw [List.getD_eq_getElem?_getD, List.getElem?_map, List.getElem?_range h]
  rfl
theorem mixB_lt {a : List Nat} (h : ∀ x ∈ a, x < 256) (i : Nat) : mixB a i < 256 := by
  have g : ∀ j, a.getD j 0 < 256 := fun j => getD_lt0 (by decide) j h
  exact xor8 (xor8 (g _) (xor8 (xor8 (xor8 (g _) (g _)) (g _)) (g _))) (dbl_lt (xor8 (g _) (g _)))
theorem mixN_lt {a : List Nat} (h : ∀ x ∈ a, x < 256) : ∀ x ∈ mixN a, x < 256 := fun x hx => by
  obtain ⟨i, _, rfl⟩ := List.mem_map.1 hx
  exact mixB_lt h i
theorem tw_cell {b : Nat} {dn st tn : Int} {made : Bool} {key : List Nat} {w : World} (h : CB b dn st made (MF key) tn w) (hk : key.length = 16) {i : Nat} (hi : i < 256) : w.cell? ⟨b, 276 + i, none⟩ = some (.int .u8 (dbl i : Nat)) := by
  have := h.cat (i := 272 + i) (j := 276 + i) (by omega) (by omega)
  rw [MF, MM_tw hk boxT_len twT_len hi, twT_get hi] at this
  exact this
abbrev z4 : List Nat := [0, 0, 0, 0]
set_option maxRecDepth 100000 in
set_option maxHeartbeats 3200000 in
theorem mix_any (b : Nat) (tn : Int) (key a : List Nat) (w : World) (h : CB b 1 0 true (MF key) tn w) (hk : key.length = 16) (ha : a.length = 4) (ha8 : ∀ x ∈ a, x < 256) :
    Calls Try.prog 39 #[.pointer (some ⟨b, 0, none⟩), .agg (arr .u8 a)] w fun e w' => e = .returned (.agg (arr .u8 (mixN a))) ∧ Below w.heap.size w w' := by
  have HC := Lib.hid h
  have HBl := Lib.hid h.lt
  have HK := Lib.hid hk
  have HA := Lib.hid ha
  have HA8 := Lib.hid ha8
  have HML := Lib.hid (mixN_len a)
  have HMG := Lib.hid (fun i => mixN_get a (i := i))
  obtain ⟨M, hM⟩ : ∃ M, mixN a = M := ⟨_, rfl⟩
  rw [hM] at HML
  have HMG := Lib.hid (show ∀ i, i < 4 → M.getD i 0 = mixB a i from fun i hi => by rw [← hM]; exact mixN_get a hi)
  rw [hM]
  clear h hk ha ha8 hM
  go_enter Try.func39, Try.ntmps39
  go_upto_region 1 with (fail)
  refine wp_at fun W hW => ?_
  obtain ⟨h2, h4, hb, hsz⟩ := two_ab (k := .u8) (k' := .u8) a z4 hW
  have HT3 := Lib.hid h2
  have HT4 := Lib.hid h4
  have HB := Lib.hid hb
  have HZ := Lib.hid hsz
  have HC1 := Lib.hid (HC.out.below hb)
  clear hW h2 h4 hb hsz HC
  obtain ⟨a0, e0⟩ : ∃ x, a.getD 0 0 = x := ⟨_, rfl⟩
  obtain ⟨a1, e1⟩ : ∃ x, a.getD 1 0 = x := ⟨_, rfl⟩
  obtain ⟨a2, e2⟩ : ∃ x, a.getD 2 0 = x := ⟨_, rfl⟩
  obtain ⟨a3, e3⟩ : ∃ x, a.getD 3 0 = x := ⟨_, rfl⟩
  have g0 : a0 < 256 := e0 ▸ getD_lt0 (l := a) (by decide : 0 < 256) 0 HA8.out
  have g1 : a1 < 256 := e1 ▸ getD_lt0 (l := a) (by decide : 0 < 256) 1 HA8.out
  have g2 : a2 < 256 := e2 ▸ getD_lt0 (l := a) (by decide : 0 < 256) 2 HA8.out
  have g3 : a3 < 256 := e3 ▸ getD_lt0 (l := a) (by decide : 0 < 256) 3 HA8.out
  have c0 : W.cell? ⟨w.heap.size, 0, none⟩ = some (.int .u8 (a0 : Nat)) := e0 ▸ HT3.out.cell (i := 0) (by rw [HA.out]; decide)
  have c1 : W.cell? ⟨w.heap.size, 1, none⟩ = some (.int .u8 (a1 : Nat)) := e1 ▸ HT3.out.cell (i := 1) (by rw [HA.out]; decide)
  have c2 : W.cell? ⟨w.heap.size, 2, none⟩ = some (.int .u8 (a2 : Nat)) := e2 ▸ HT3.out.cell (i := 2) (by rw [HA.out]; decide)
  have c3 : W.cell? ⟨w.heap.size, 3, none⟩ = some (.int .u8 (a3 : Nat)) := e3 ▸ HT3.out.cell (i := 3) (by rw [HA.out]; decide)
  have x1 := xor_u8 _ _ g0 g1
  have y1 := xor8 g0 g1
  have x2 := xor_u8 _ _ y1 g2
  have y2 := xor8 y1 g2
  have x3 := xor_u8 _ _ y2 g3
  have y3 := xor8 y2 g3
  have HMB := Lib.hid (show ∀ i, mixB a i = (a.getD i 0 ^^^ (((a0 ^^^ a1) ^^^ a2) ^^^ a3)) ^^^ dbl (a.getD i 0 ^^^ a.getD ((i + 1) % 4) 0) from fun i => by rw [mixB, e0, e1, e2, e3])
  generalize a0 ^^^ a1 ^^^ a2 ^^^ a3 = al at *
  have HL := Lib.hid y3
  clear y1 y2 y3 g0 g1 g2 g3 e0 e1 e2 e3
  have hz := HZ.out
  go_upto_region 3 with (fail)
  clear c0 c1 c2 c3 x1 x2 x3 hz
  refine wp_at fun W2 hW2 => ?_
  have HBn := Lib.hid (show Below W.heap.size W W2 from by rw [hW2]; exact (Below.refl _ _).alloc (Nat.le_refl _) _)
  have HT6 := Lib.hid (show AB .u8 36 W.heap.size z4 W2 from by rw [hW2]; exact AB.mk W .u8 _ _)
  have HT3' := Lib.hid (HT3.out.below HT3.out.lt HBn.out)
  have HT4' := Lib.hid (HT4.out.below HT4.out.lt HBn.out)
  have HC2 := Lib.hid (HC1.out.below HBn.out)
  have HB2 := Lib.hid (show Below w.heap.size w W2 from HB.out.trans ⟨HBn.out.os, HBn.out.tape, HBn.out.output, HBn.out.size, fun k hk => HBn.out.block k (by have := HZ.out; omega)⟩)
  rw [HZ.out] at HT6
  clear HBn HB HC1 HT3 HT4 hW2
  have HT3 := HT3'
  have HT4 := HT4'
  have HS2 := Lib.hid (show w.heap.size + 3 ≤ W2.heap.size from HT6.out.lt)
  clear HT3' HT4'
  generalize hn : w.heap.size = n0 at *
  have Hn := Lib.hid hn
  clear hn HZ
  go_wp2_with fail
  go_loopg [19] 6 (fun g v19 w' => ∃ i : Nat, v19 = .int .i64 (i : Int) ∧ Hid (i ≤ 4 ∧ 4 < g + i) ∧ Hid (AB .u8 36 n0 a w') ∧ Hid (AB .u8 36 (n0 + 1) z4 w') ∧ Hid (AB .u8 36 (n0 + 2) (fl M i) w') ∧ Hid (CB b 1 0 true (MF key) tn w') ∧ Hid (Below n0 w w'))
  case atStart => exact ⟨0, rfl, Lib.hid ⟨by omega, by omega⟩, HT3, HT4, Lib.hid (by rw [fl_zero, HML.out]; exact HT6.out), HC2, HB2⟩
  case round =>
    obtain ⟨i, rfl, HJ, H3, H4, H6, HC, HBw⟩ := hrel
    clear HT3 HT4 HT6 HC2 HB2
    cases gk with
    | zero => have := HJ.out; omega
    | succ k =>
      by_cases hi : i < 4
      · have HJ' := Lib.hid (show i < 4 ∧ 4 < (k + 1) + i from ⟨hi, HJ.out.2⟩)
        obtain ⟨m, hm⟩ : ∃ m, m = (i + 1) % 4 := ⟨_, rfl⟩
        have hm4 : m < 4 := by omega
        have z0 : (i : Int) < 4 := by omega
        have z1 : (0 : Int) ≤ (i : Int) := by omega
        have z2 : (m : Int) < 4 := by omega
        have z3 : (0 : Int) ≤ (m : Int) := by omega
        have r1 : ((i : Int) + 1) % 4 = (m : Int) := by omega
        have r2 : ((i : Int) + 1).tmod 4 = (m : Int) := by rw [Int.tmod_eq_emod_of_nonneg (by omega)]; omega
        have HMi := Lib.hid (show M.getD i 0 = (a.getD i 0 ^^^ al) ^^^ dbl (a.getD i 0 ^^^ a.getD m 0) from by rw [HMG.out i hi, HMB.out, hm])
        have p1 := H3.out.cell (i := i) (by rw [HA.out]; exact hi)
        have p2 := H3.out.cell (i := m) (by rw [HA.out]; exact hm4)
        have g1 := getD_lt0 (l := a) (by decide : 0 < 256) i HA8.out
        have g2 := getD_lt0 (l := a) (by decide : 0 < 256) m HA8.out
        generalize a.getD i 0 = xi at *
        generalize a.getD m 0 = xm at *
        have x1 := xor_u8 xi al g1 HL.out
        have y1 := xor8 g1 HL.out
        have x2 := xor_u8 xi xm g1 g2
        have y2 := xor8 g1 g2
        generalize xi ^^^ al = xa at *
        generalize xi ^^^ xm = xk at *
        have HCl := Lib.hid (show b < n0 from by have := HBl.out; exact this)
        have p3 := tw_cell HC.out HK.out y2
        have x3 := xor_u8 xa (dbl xk) y1 (dbl_lt y2)
        have z9 : (xk : Int) < 256 := by omega
        have q1 := gw H3.out.lt p1
        have q2 := gw H3.out.lt p2
        have q3 := gw HC.out.lt p3
        clear hm hm4 hi HJ p1 p2 p3 g1 g2 y1 y2
        go_wp2_with fail
        refine Q.wp_region_segsF none [] [0, 1, 2, 3, 4, 5, 6, 7, 8, 9, 10, 11, 12, 13, 14, 15, 16, 17, 18, 19, 20, 21] 22 (by kernel_rfl) (by kernel_rfl) (by kernel_rfl) (by kernel_rfl) ?_
        dsimp only [Q.wpSegsF, Q.picks, Q.pick]
        repeat (go_big_quiet_step (fail))
        refine wpQuiet_nil ?_
        clear q1 q2 q3 x1 x2 x3
        have c0 := H6.out.drew.cell (i := i) (by rw [fl_length M (by rw [HML.out]; have := HJ'.out; omega), HML.out]; exact HJ'.out.1)
        have f0 := H6.out.drew.fz i
        go_wp2_with fail
        refine NoPanic.normal ?_
        clear c0 f0
        go_wp2_with fail
        go_roundg k
        case measure => have := HJ'.out; omega
        case rel =>
          have hs := H6.out.drew.set i (xa ^^^ dbl xk)
          rw [← HMi.out, fl_step (by rw [HML.out]; exact HJ'.out.1), HMi.out] at hs
          exact ⟨i + 1, by go_num, Lib.hid (by have := HJ'.out; omega), Lib.hid (H3.out.drew.other (by omega)), Lib.hid (H4.out.drew.other (by omega)), Lib.hid hs, Lib.hid (HC.out.drew.grown (gset _ (n0 + 2) _ _) (by have := HCl.out; omega)), Lib.hid ((HBw.out.drew).setCell (p := ⟨n0 + 2, i, none⟩) (by show n0 ≤ n0 + 2; omega) _)⟩
      · obtain rfl : i = 4 := by have := HJ.out; omega
        clear hi HJ
        have H6' := Lib.hid (show AB .u8 36 (n0 + 2) M wr from by have := H6.out; have e := fl_all M; rw [HML.out] at e; rwa [e] at this)
        have hi4 := info_w4
        rw [← HML.out] at hi4
        have Hi := Lib.hid hi4
        clear hi4 H6
        go_wp2_with (first
          | (refine load_ab .u8 (n0 + 2) M rfl rfl rfl H6'.out Try.underlying36 Hi.out ?_)
          | (refine store_ab .u8 (n0 + 1) z4 M rfl rfl rfl rfl rfl H4.out Hi.out HML.out.symm ?_; intro w9 h9 hg9; (have H9 := Lib.hid h9); (have HB9 := Lib.hid (below_grown HBw.out (by have := H3.out.lt; omega) hg9 (Nat.le_succ _))); clear h9 hg9))
        have hl := H9.out.load (P := Try.prog) Try.underlying36 Hi.out
        exact bodyPost_ret (v := .agg (arr .u8 M)) (by simp [results, Try.results39, hl, Act.put, asAddr]) rfl ⟨rfl, by rw [Hn.out]; exact HB9.out⟩
end Go.Proofs.Ytblnclooobggnaa.A

namespace Go.Proofs.Ytblnclooobggnaa.A
open Go.RowKit Go.Proofs.Ytblnclooobggnaa.L Go.Proofs.Ytblnclooobggnaa.N

def g16 (f : Nat → Nat) : List Nat := (List.range 16).map f
theorem g16_len (f : Nat → Nat) : (g16 f).length = 16 := by simp [g16]
theorem g16_get (f : Nat → Nat) {j : Nat} (h : j < 16) : (g16 f).getD j 0 = f j := by
  unfold g16
  rw [List.getD_eq_getElem?_getD, List.getElem?_map, List.getElem?_range h]
  rfl
theorem g16_lt {f : Nat → Nat} (h : ∀ j, f j < 256) : ∀ x ∈ g16 f, x < 256 := fun x hx => by
  obtain ⟨j, _, rfl⟩ := List.mem_map.1 hx
  exact h j
def rowS (s : List Nat) (i k : Nat) : Nat := bxv (s.getD (4 * ((i + k) % 4) + k) 0)
def subS (s : List Nat) : List Nat := g16 fun j => rowS s (j / 4) (j % 4)
def rowR (s : List Nat) (i : Nat) : List Nat := ((subS s).drop (4 * i)).take 4
def rowT (r : Nat) (s : List Nat) (i : Nat) : List Nat := if r < 10 then mixN (rowR s i) else rowR s i
def rnd (key : List Nat) (r : Nat) (s : List Nat) : List Nat := g16 fun j => (rowT r s (j / 4)).getD (j % 4) 0 ^^^ (WK key).getD (16 * r + j) 0
def addK (key b : List Nat) : List Nat := g16 fun j => b.getD j 0 ^^^ (WK key).getD j 0
def rnds (key b : List Nat) : Nat → List Nat
  | 0 => addK key b
  | r + 1 => rnd key (r + 1) (rnds key b r)
def turnP (key b : List Nat) : List Nat := rnds key b 10
theorem rnds_succ (key b : List Nat) (r : Nat) : rnds key b (r + 1) = rnd key (r + 1) (rnds key b r) := by rw [rnds]
theorem rnds_len (key b : List Nat) : ∀ r, (rnds key b r).length = 16
  | 0 => by rw [rnds]; exact g16_len _
  | r + 1 => by rw [rnds]; exact g16_len _
theorem rowS_lt (s : List Nat) (i k : Nat) : rowS s i k < 256 := bxv_lt _
theorem subS_lt (s : List Nat) : ∀ x ∈ subS s, x < 256 := g16_lt fun _ => rowS_lt _ _ _
theorem rowR_lt (s : List Nat) (i : Nat) : ∀ x ∈ rowR s i, x < 256 := take_lt _ (drop_lt _ (subS_lt s))
theorem rowR_len (s : List Nat) {i : Nat} (h : i < 4) : (rowR s i).length = 4 := by
  unfold rowR
  rw [List.length_take, List.length_drop, subS, g16_len]
  omega
theorem rowT_lt (r : Nat) (s : List Nat) (i : Nat) : ∀ x ∈ rowT r s i, x < 256 := by
  unfold rowT
  split
  · exact mixN_lt (rowR_lt s i)
  · exact rowR_lt s i
theorem rowT_len (r : Nat) (s : List Nat) {i : Nat} (h : i < 4) : (rowT r s i).length = 4 := by
  unfold rowT
  split
  · exact mixN_len _
  · exact rowR_len s h
theorem rnd_len (key : List Nat) (r : Nat) (s : List Nat) : (rnd key r s).length = 16 := g16_len _
theorem rnd_lt {key : List Nat} (hk : ∀ x ∈ key, x < 256) (r : Nat) (s : List Nat) : ∀ x ∈ rnd key r s, x < 256 :=
  g16_lt fun j => xor8 (getD_lt0 (by decide) _ (rowT_lt r s _)) (getD_lt0 (by decide) _ (WK_lt hk))
theorem addK_lt {key b : List Nat} (hk : ∀ x ∈ key, x < 256) (hb : ∀ x ∈ b, x < 256) : ∀ x ∈ addK key b, x < 256 :=
  g16_lt fun j => xor8 (getD_lt0 (by decide) _ hb) (getD_lt0 (by decide) _ (WK_lt hk))
theorem rnds_lt {key b : List Nat} (hk : ∀ x ∈ key, x < 256) (hb : ∀ x ∈ b, x < 256) : ∀ r, ∀ x ∈ rnds key b r, x < 256
  | 0 => by rw [rnds]; exact addK_lt hk hb
  | r + 1 => by rw [rnds]; exact rnd_lt hk _ _
theorem d4 {i k : Nat} (h : k < 4) : (4 * i + k) / 4 = i ∧ (4 * i + k) % 4 = k := by omega
theorem subS_get (s : List Nat) {i k : Nat} (hi : i < 4) (hk : k < 4) : (subS s).getD (4 * i + k) 0 = rowS s i k := by
  unfold subS
  rw [g16_get _ (by omega), (d4 hk).1, (d4 hk).2]
theorem rnd_get (key : List Nat) (r : Nat) (s : List Nat) {i k : Nat} (hi : i < 4) (hk : k < 4) : (rnd key r s).getD (4 * i + k) 0 = (rowT r s i).getD k 0 ^^^ (WK key).getD (16 * r + (4 * i + k)) 0 := by
  unfold rnd
  rw [g16_get _ (by omega), (d4 hk).1, (d4 hk).2]
theorem addK_get (key b : List Nat) {i k : Nat} (hi : i < 4) (hk : k < 4) : (addK key b).getD (4 * i + k) 0 = b.getD (4 * i + k) 0 ^^^ (WK key).getD (4 * i + k) 0 := by
  unfold addK
  rw [g16_get _ (by omega)]
theorem rowR_get (s : List Nat) {i k : Nat} (hk : k < 4) : (rowR s i).getD k 0 = (subS s).getD (4 * i + k) 0 := by
  unfold rowR
  rw [List.getD_eq_getElem?_getD, List.getD_eq_getElem?_getD, List.getElem?_take, if_pos hk, List.getElem?_drop]
/-- row i being filled with what is substituted -/
def midA (L S : List Nat) (i : Nat) : List Nat := L.take (4 * i) ++ S.drop (4 * i)
theorem midA_len {L S : List Nat} (hL : L.length = 16) (hS : S.length = 16) {i : Nat} (hi : i ≤ 4) : (midA L S i).length = 16 := by
  unfold midA
  rw [List.length_append, List.length_take, List.length_drop]
  omega
theorem midA_get {L S : List Nat} (hL : L.length = 16) {i k : Nat} (hi : i < 4) (_hk : k < 4) : (midA L S i).getD (4 * i + k) 0 = S.getD (4 * i + k) 0 := by
  unfold midA
  rw [getD_right k (by rw [List.length_take]; omega), List.getD_eq_getElem?_getD, List.getElem?_drop, ← List.getD_eq_getElem?_getD]
theorem fl_midA {L S : List Nat} (hL : L.length = 16) (hS : S.length = 16) {i : Nat} (hi : i ≤ 4) : fl (midA L S i) (4 * i) = fl L (4 * i) := by
  unfold fl
  rw [midA_len hL hS hi, hL]
  congr 1
  unfold midA
  rw [List.take_append_of_le_length (by rw [List.length_take]; omega), List.take_take, Nat.min_self]
/-- row i done but for the key -/
def midB (L T : List Nat) (i : Nat) : List Nat := L.take (4 * i) ++ (T ++ List.replicate (12 - 4 * i) 0)
theorem midB_len {L T : List Nat} (hL : L.length = 16) (hT : T.length = 4) {i : Nat} (hi : i < 4) : (midB L T i).length = 16 := by
  unfold midB
  simp only [List.length_append, List.length_take, List.length_replicate]
  omega
theorem midB_get {L T : List Nat} (hL : L.length = 16) (hT : T.length = 4) {i k : Nat} (hi : i < 4) (hk : k < 4) : (midB L T i).getD (4 * i + k) 0 = T.getD k 0 := by
  unfold midB
  rw [getD_right k (by rw [List.length_take]; omega), getD_left (by omega)]
theorem flA_row {L s : List Nat} (hL : L.length = 16) {i : Nat} (hi : i < 4) : fl (midA L (subS s) i) (4 * i + 4) = midB L (rowR s i) i := by
  unfold fl midB rowR
  rw [midA_len (S := subS s) hL (g16_len _) (by omega), show 16 - (4 * i + 4) = 12 - 4 * i from by omega, ← List.append_assoc]
  congr 1
  unfold midA
  rw [List.take_append, List.take_of_length_le (by rw [List.length_take]; omega)]
  congr 2
  rw [List.length_take]
  omega
theorem midB_row {L T : List Nat} (hL : L.length = 16) (hT : T.length = 4) {i : Nat} (hi : i < 4) (T' : List Nat) (hT' : T'.length = 4) : splice (midB L T i) (4 * i) T' = midB L T' i := by
  have e1 : (L.take (4 * i)).length = 4 * i := by rw [List.length_take]; omega
  unfold splice midB
  rw [List.take_append_of_le_length (by omega), List.take_of_length_le (by omega), hT']
  congr 2
  rw [show 4 * i + 4 = (L.take (4 * i)).length + T.length from by omega, ← List.drop_drop, List.drop_left, List.drop_left]
theorem fld_midB {L T : List Nat} (hL : L.length = 16) {i : Nat} (hi : i < 4) : fld (fl L (4 * i + 4)) (midB L T i) (4 * i) = midB L T i := by
  have e1 : (L.take (4 * i)).length = 4 * i := by rw [List.length_take]; omega
  unfold fld fl midB
  rw [List.drop_append_of_le_length (by omega), List.drop_of_length_le (by omega), List.nil_append, List.take_append_of_le_length (by rw [List.length_take]; omega), List.take_take]
  congr 2
  omega
theorem fld_all4 {L T : List Nat} (hL : L.length = 16) (hT : T.length = 4) {i : Nat} (hi : i < 4) : fld (fl L (4 * i + 4)) (midB L T i) (4 * i + 4) = fl L (4 * i + 4) := by
  have e1 : (L.take (4 * i)).length = 4 * i := by rw [List.length_take]; omega
  unfold fld
  have h1 : (fl L (4 * i + 4)).take (4 * i + 4) = L.take (4 * i + 4) := by
    unfold fl
    rw [List.take_append_of_le_length (by rw [List.length_take]; omega), List.take_take, Nat.min_self]
  have h2 : (midB L T i).drop (4 * i + 4) = List.replicate (12 - 4 * i) 0 := by
    unfold midB
    rw [show 4 * i + 4 = (L.take (4 * i)).length + T.length from by omega, ← List.drop_drop, List.drop_left, List.drop_left]
  rw [h1, h2]
  unfold fl
  rw [hL, show 16 - (4 * i + 4) = 12 - 4 * i from by omega]
theorem flL_get {L : List Nat} (hL : L.length = 16) {i k : Nat} (hi : i < 4) (hk : k < 4) : (fl L (4 * i + 4)).getD (4 * i + k) 0 = L.getD (4 * i + k) 0 := by
  unfold fl
  rw [getD_left (by rw [List.length_take]; omega), List.getD_eq_getElem?_getD, List.getElem?_take, if_pos (by omega), ← List.getD_eq_getElem?_getD]
theorem fl_splice {s : List Nat} (h : s.length = 16) {i : Nat} (hi : i < 4) : splice (fl s (4 * i)) (4 * i) ((s.drop (4 * i)).take 4) = fl s (4 * (i + 1)) := by
  have e0 : (s.take (4 * i)).length = 4 * i := by rw [List.length_take]; omega
  have e1 : ((s.drop (4 * i)).take 4).length = 4 := by rw [List.length_take, List.length_drop]; omega
  unfold splice fl
  rw [e1, h, List.take_append_of_le_length (by omega), List.take_of_length_le (by omega), show 4 * (i + 1) = 4 * i + 4 from by omega, List.take_add, List.append_assoc]
  congr 2
  rw [List.drop_append, List.drop_of_length_le (by omega), List.nil_append, e0, List.drop_replicate]
  congr 1
  omega
end Go.Proofs.Ytblnclooobggnaa.A

namespace Go.Proofs.Ytblnclooobggnaa.A
open Go.RowKit Go.Proofs.Ytblnclooobggnaa.L Go.Proofs.Ytblnclooobggnaa.N

theorem dbl_xor : ∀ a, a < 256 → ∀ b, b < 256 → dbl (a ^^^ b) = dbl a ^^^ dbl b := by decide +kernel
def invL : List Nat := (List.range 256).foldl (fun l x => l.set (bxv x) x) (List.replicate 256 0)
theorem inv_box : ∀ a, a < 256 → invL.getD (bxv a) 0 = a := by decide +kernel
theorem bxv_inj {a b : Nat} (ha : a < 256) (hb : b < 256) (h : bxv a = bxv b) : a = b := by
  rw [← inv_box a ha, h, inv_box b hb]
theorem xor_cancel {a b c : Nat} (h : a ^^^ c = b ^^^ c) : a = b := by
  have := congrArg (· ^^^ c) h
  simpa [Nat.xor_assoc, Nat.xor_self] using this
theorem b6 : ∀ x y A B p q : Bool, (((x ^^ A) ^^ p) = ((y ^^ B) ^^ q)) → (((x ^^ y) ^^ (A ^^ B)) = (p ^^ q)) := by decide
theorem eq_step {x y A B p q : Nat} (h : (x ^^^ A) ^^^ p = (y ^^^ B) ^^^ q) : (x ^^^ y) ^^^ (A ^^^ B) = p ^^^ q := by
  apply Nat.eq_of_testBit_eq
  intro i
  have := congrArg (Nat.testBit · i) h
  simp only [Nat.testBit_xor] at this ⊢
  exact b6 _ _ _ _ _ _ this
theorem b8 : ∀ d0 d1 d2 d3 D0 D1 D2 D3 : Bool, ((d0 ^^ (((d0 ^^ d1) ^^ d2) ^^ d3)) = (D0 ^^ D1)) → ((d1 ^^ (((d0 ^^ d1) ^^ d2) ^^ d3)) = (D1 ^^ D2)) → ((d2 ^^ (((d0 ^^ d1) ^^ d2) ^^ d3)) = (D2 ^^ D3)) → ((d3 ^^ (((d0 ^^ d1) ^^ d2) ^^ d3)) = (D3 ^^ D0)) → (((d0 ^^ d1) ^^ d2) ^^ d3) = false := by decide
theorem zero_of_bits {n : Nat} (h : ∀ i, n.testBit i = false) : n = 0 := Nat.eq_of_testBit_eq fun i => by rw [h i, Nat.zero_testBit]
theorem eq_of_xor {a b : Nat} (h : a ^^^ b = 0) : a = b := by
  have : a ^^^ b = b ^^^ b := by rw [h, Nat.xor_self]
  exact xor_cancel this
theorem b4 : ∀ d0 d2 D0 D1 D2 D3 : Bool, d0 = (D0 ^^ D1) → d2 = (D2 ^^ D3) → (((D0 ^^ D1) ^^ D2) ^^ D3) = false → d0 = d2 := by decide
theorem x4 {d0 d2 D0 D1 D2 D3 : Nat} (h0 : d0 = D0 ^^^ D1) (h2 : d2 = D2 ^^^ D3) (h : D0 ^^^ D1 ^^^ D2 ^^^ D3 = 0) : d0 = d2 := by
  apply Nat.eq_of_testBit_eq
  intro i
  have e0 := congrArg (Nat.testBit · i) h0
  have e2 := congrArg (Nat.testBit · i) h2
  have e := congrArg (Nat.testBit · i) h
  simp only [Nat.testBit_xor, Nat.zero_testBit] at e0 e2 e
  exact b4 _ _ _ _ _ _ e0 e2 e
theorem mix_zero {d0 d1 d2 d3 : Nat} (h0 : d0 < 256) (h1 : d1 < 256) (h2 : d2 < 256) (h3 : d3 < 256)
    (f0 : d0 ^^^ (d0 ^^^ d1 ^^^ d2 ^^^ d3) = dbl (d0 ^^^ d1)) (f1 : d1 ^^^ (d0 ^^^ d1 ^^^ d2 ^^^ d3) = dbl (d1 ^^^ d2)) (f2 : d2 ^^^ (d0 ^^^ d1 ^^^ d2 ^^^ d3) = dbl (d2 ^^^ d3)) (f3 : d3 ^^^ (d0 ^^^ d1 ^^^ d2 ^^^ d3) = dbl (d3 ^^^ d0)) :
    d0 = 0 ∧ d1 = 0 ∧ d2 = 0 ∧ d3 = 0 := by
  rw [dbl_xor _ h0 _ h1] at f0
  rw [dbl_xor _ h1 _ h2] at f1
  rw [dbl_xor _ h2 _ h3] at f2
  rw [dbl_xor _ h3 _ h0] at f3
  have hD : d0 ^^^ d1 ^^^ d2 ^^^ d3 = 0 := zero_of_bits fun i => by
    have e0 := congrArg (Nat.testBit · i) f0
    have e1 := congrArg (Nat.testBit · i) f1
    have e2 := congrArg (Nat.testBit · i) f2
    have e3 := congrArg (Nat.testBit · i) f3
    simp only [Nat.testBit_xor] at e0 e1 e2 e3 ⊢
    exact b8 _ _ _ _ _ _ _ _ e0 e1 e2 e3
  have hL : dbl d0 ^^^ dbl d1 ^^^ dbl d2 ^^^ dbl d3 = 0 := by
    rw [← dbl_xor _ h0 _ h1, ← dbl_xor _ (xor8 h0 h1) _ h2, ← dbl_xor _ (xor8 (xor8 h0 h1) h2) _ h3, hD]
    rfl
  rw [hD, Nat.xor_zero] at f0 f1 f2 f3
  have e02 : d0 = d2 := x4 f0 f2 hL
  have e13 : d1 = d3 := x4 f1 f3 (by
    have : dbl d1 ^^^ dbl d2 ^^^ dbl d3 ^^^ dbl d0 = dbl d0 ^^^ dbl d1 ^^^ dbl d2 ^^^ dbl d3 := by
      apply Nat.eq_of_testBit_eq
      intro i
      simp only [Nat.testBit_xor]
      generalize (dbl d0).testBit i = p
      generalize (dbl d1).testBit i = q
      generalize (dbl d2).testBit i = r
      generalize (dbl d3).testBit i = s
      revert p q r s
      decide
    rw [this, hL])
  subst e02
  subst e13
  have e01 : d0 = d1 := by
    rw [Nat.xor_comm] at f1
    exact f0.trans f1.symm
  subst e01
  rw [Nat.xor_self] at f0
  exact ⟨f0, f0, f0, f0⟩
theorem len4 {a : List Nat} (h : a.length = 4) : ∃ a0 a1 a2 a3, a = [a0, a1, a2, a3] := by
  match a, h with
  | [a0, a1, a2, a3], _ => exact ⟨a0, a1, a2, a3, rfl⟩
theorem bsum : ∀ a0 a1 a2 a3 b0 b1 b2 b3 : Bool, ((((a0 ^^ a1) ^^ a2) ^^ a3) ^^ (((b0 ^^ b1) ^^ b2) ^^ b3)) = ((((a0 ^^ b0) ^^ (a1 ^^ b1)) ^^ (a2 ^^ b2)) ^^ (a3 ^^ b3)) := by decide
theorem xsum (a0 a1 a2 a3 b0 b1 b2 b3 : Nat) : (a0 ^^^ a1 ^^^ a2 ^^^ a3) ^^^ (b0 ^^^ b1 ^^^ b2 ^^^ b3) = (a0 ^^^ b0) ^^^ (a1 ^^^ b1) ^^^ (a2 ^^^ b2) ^^^ (a3 ^^^ b3) := by
  apply Nat.eq_of_testBit_eq
  intro i
  simp only [Nat.testBit_xor]
  exact bsum _ _ _ _ _ _ _ _
theorem bpair : ∀ a0 a1 b0 b1 : Bool, ((a0 ^^ a1) ^^ (b0 ^^ b1)) = ((a0 ^^ b0) ^^ (a1 ^^ b1)) := by decide
theorem xpair (a0 a1 b0 b1 : Nat) : (a0 ^^^ a1) ^^^ (b0 ^^^ b1) = (a0 ^^^ b0) ^^^ (a1 ^^^ b1) := by
  apply Nat.eq_of_testBit_eq
  intro i
  simp only [Nat.testBit_xor]
  exact bpair _ _ _ _
theorem mix_inj {a b : List Nat} (ha : a.length = 4) (hb : b.length = 4) (ha8 : ∀ x ∈ a, x < 256) (hb8 : ∀ x ∈ b, x < 256) (h : mixN a = mixN b) : a = b := by
  obtain ⟨a0, a1, a2, a3, rfl⟩ := len4 ha
  obtain ⟨b0, b1, b2, b3, rfl⟩ := len4 hb
  have p0 : a0 < 256 := ha8 _ (by simp)
  have p1 : a1 < 256 := ha8 _ (by simp)
  have p2 : a2 < 256 := ha8 _ (by simp)
  have p3 : a3 < 256 := ha8 _ (by simp)
  have q0 : b0 < 256 := hb8 _ (by simp)
  have q1 : b1 < 256 := hb8 _ (by simp)
  have q2 : b2 < 256 := hb8 _ (by simp)
  have q3 : b3 < 256 := hb8 _ (by simp)
  have e : ∀ i, i < 4 → mixB [a0, a1, a2, a3] i = mixB [b0, b1, b2, b3] i := fun i hi => by rw [← mixN_get _ hi, ← mixN_get _ hi, h]
  have e0 : (a0 ^^^ (a0 ^^^ a1 ^^^ a2 ^^^ a3)) ^^^ dbl (a0 ^^^ a1) = (b0 ^^^ (b0 ^^^ b1 ^^^ b2 ^^^ b3)) ^^^ dbl (b0 ^^^ b1) := e 0 (by decide)
  have e1 : (a1 ^^^ (a0 ^^^ a1 ^^^ a2 ^^^ a3)) ^^^ dbl (a1 ^^^ a2) = (b1 ^^^ (b0 ^^^ b1 ^^^ b2 ^^^ b3)) ^^^ dbl (b1 ^^^ b2) := e 1 (by decide)
  have e2 : (a2 ^^^ (a0 ^^^ a1 ^^^ a2 ^^^ a3)) ^^^ dbl (a2 ^^^ a3) = (b2 ^^^ (b0 ^^^ b1 ^^^ b2 ^^^ b3)) ^^^ dbl (b2 ^^^ b3) := e 2 (by decide)
  have e3 : (a3 ^^^ (a0 ^^^ a1 ^^^ a2 ^^^ a3)) ^^^ dbl (a3 ^^^ a0) = (b3 ^^^ (b0 ^^^ b1 ^^^ b2 ^^^ b3)) ^^^ dbl (b3 ^^^ b0) := e 3 (by decide)
  have g0 := eq_step e0
  have g1 := eq_step e1
  have g2 := eq_step e2
  have g3 := eq_step e3
  rw [xsum, ← dbl_xor _ (xor8 p0 p1) _ (xor8 q0 q1), xpair a0 a1 b0 b1] at g0
  rw [xsum, ← dbl_xor _ (xor8 p1 p2) _ (xor8 q1 q2), xpair a1 a2 b1 b2] at g1
  rw [xsum, ← dbl_xor _ (xor8 p2 p3) _ (xor8 q2 q3), xpair a2 a3 b2 b3] at g2
  rw [xsum, ← dbl_xor _ (xor8 p3 p0) _ (xor8 q3 q0), xpair a3 a0 b3 b0] at g3
  obtain ⟨z0, z1, z2, z3⟩ := mix_zero (xor8 p0 q0) (xor8 p1 q1) (xor8 p2 q2) (xor8 p3 q3) g0 g1 g2 g3
  rw [eq_of_xor z0, eq_of_xor z1, eq_of_xor z2, eq_of_xor z3]
theorem ext_getD {l m : List Nat} {n : Nat} (hl : l.length = n) (hm : m.length = n) (h : ∀ j, j < n → l.getD j 0 = m.getD j 0) : l = m := by
  refine List.ext_getElem (hl.trans hm.symm) fun j h1 h2 => ?_
  have := h j (by omega)
  rwa [List.getD_eq_getElem?_getD, List.getD_eq_getElem?_getD, List.getElem?_eq_getElem h1, List.getElem?_eq_getElem h2] at this
theorem rnd_inj {key s t : List Nat} {r : Nat} (hs : s.length = 16) (ht : t.length = 16) (hs8 : ∀ x ∈ s, x < 256) (ht8 : ∀ x ∈ t, x < 256) (h : rnd key r s = rnd key r t) : s = t := by
  have hT : ∀ i, i < 4 → rowT r s i = rowT r t i := fun i hi => ext_getD (rowT_len r s hi) (rowT_len r t hi) fun k hk => by
    have e1 := rnd_get key r s hi hk
    have e2 := rnd_get key r t hi hk
    rw [h, e2] at e1
    exact (xor_cancel e1).symm
  have hR : ∀ i, i < 4 → rowR s i = rowR t i := fun i hi => by
    have := hT i hi
    unfold rowT at this
    split at this
    · exact mix_inj (rowR_len s hi) (rowR_len t hi) (rowR_lt s i) (rowR_lt t i) this
    · exact this
  have hS : ∀ i k, i < 4 → k < 4 → rowS s i k = rowS t i k := fun i k hi hk => by
    rw [← subS_get s hi hk, ← subS_get t hi hk, ← rowR_get s hk, ← rowR_get t hk, hR i hi]
  refine ext_getD hs ht fun j hj => ?_
  have := hS ((j / 4 + 4 - j % 4) % 4) (j % 4) (by omega) (by omega)
  unfold rowS at this
  rw [show 4 * (((j / 4 + 4 - j % 4) % 4 + j % 4) % 4) + j % 4 = j from by omega] at this
  exact bxv_inj (getD_lt0 (by decide) _ hs8) (getD_lt0 (by decide) _ ht8) this
theorem turn_inj {key a b : List Nat} (hk : ∀ x ∈ key, x < 256) (ha : a.length = 16) (hb : b.length = 16) (ha8 : ∀ x ∈ a, x < 256) (hb8 : ∀ x ∈ b, x < 256) (h : turnP key a = turnP key b) : a = b := by
  have key' : ∀ r, rnds key a r = rnds key b r → a = b := by
    intro r
    induction r with
    | zero =>
      intro h0
      rw [rnds, rnds] at h0
      refine ext_getD ha hb fun j hj => ?_
      have e1 : (addK key a).getD j 0 = _ := g16_get _ hj
      have e2 : (addK key b).getD j 0 = _ := g16_get _ hj
      rw [h0, e2] at e1
      exact (xor_cancel e1).symm
    | succ r ih =>
      intro h1
      rw [rnds_succ, rnds_succ] at h1
      exact ih (rnd_inj (rnds_len key a r) (rnds_len key b r) (rnds_lt hk ha8 r) (rnds_lt hk hb8 r) h1)
  exact key' 10 h
end Go.Proofs.Ytblnclooobggnaa.A

namespace Go.Proofs.Ytblnclooobggnaa.A
open Go.RowKit Go.Proofs.Ytblnclooobggnaa.L Go.Proofs.Ytblnclooobggnaa.N

def be8 (n : Nat) : List Nat := (List.range 8).map (fun k => n / 256 ^ (7 - k) % 256)
theorem be8_len (n : Nat) : (be8 n).length = 8 := by simp [be8]
theorem be8_get (n : Nat) {k : Nat} (h : k < 8) : (be8 n).getD k 0 = n / 256 ^ (7 - k) % 256 := by
  unfold be8
  rw [List.getD_eq_getElem?_getD, List.getElem?_map, List.getElem?_range h]
  rfl
theorem be8_lt (n : Nat) : ∀ x ∈ be8 n, x < 256 := fun x hx => by
  obtain ⟨k, _, rfl⟩ := List.mem_map.1 hx
  exact Nat.mod_lt _ (by decide)
/-- what is turned -/
def ctrB (n i : Nat) : List Nat := be8 n ++ be8 i
theorem ctrB_len (n i : Nat) : (ctrB n i).length = 16 := by simp [ctrB, be8_len]
theorem ctrB_lt (n i : Nat) : ∀ x ∈ ctrB n i, x < 256 := app_lt (be8_lt n) (be8_lt i)
def blkN (key : List Nat) (n i : Nat) : List Nat := turnP key (ctrB n i)
theorem blkN_len (key : List Nat) (n i : Nat) : (blkN key n i).length = 16 := rnds_len key _ 10
theorem blkN_lt {key : List Nat} (h : ∀ x ∈ key, x < 256) (n i : Nat) : ∀ x ∈ blkN key n i, x < 256 := rnds_lt h (ctrB_lt n i) 10
/-- a byte of a number's stream -/
def sb (key : List Nat) (n j : Nat) : Nat := (blkN key n (j / 16)).getD (j % 16) 0
theorem sb_lt {key : List Nat} (h : ∀ x ∈ key, x < 256) (n j : Nat) : sb key n j < 256 := getD_lt0 (by decide) _ (blkN_lt h n _)
def strN (key : List Nat) (n f : Nat) : Nat → List Nat
  | 0 => []
  | m + 1 => strN key n f m ++ blkN key n (f + m)
theorem strN_succ (key : List Nat) (n f m : Nat) : strN key n f (m + 1) = strN key n f m ++ blkN key n (f + m) := by rw [strN]
theorem strN_len (key : List Nat) (n f : Nat) : ∀ m, (strN key n f m).length = 16 * m
  | 0 => rfl
  | m + 1 => by rw [strN_succ, List.length_append, strN_len key n f m, blkN_len]; omega
theorem strN_get (key : List Nat) (n f : Nat) : ∀ m j, j < 16 * m → (strN key n f m).getD j 0 = sb key n (16 * f + j)
  | 0, j, h => absurd h (by omega)
  | m + 1, j, h => by
    rw [strN_succ]
    by_cases hj : j < 16 * m
    · rw [getD_left (by rw [strN_len]; exact hj), strN_get key n f m j hj]
    · rw [show j = 16 * m + (j - 16 * m) from by omega, getD_right _ (strN_len key n f m)]
      unfold sb
      rw [show (16 * f + (16 * m + (j - 16 * m))) / 16 = f + m from by omega, show (16 * f + (16 * m + (j - 16 * m))) % 16 = j - 16 * m from by omega]
theorem strN_lt {key : List Nat} (h : ∀ x ∈ key, x < 256) (n f : Nat) : ∀ m, ∀ x ∈ strN key n f m, x < 256
  | 0 => by intro x hx; cases hx
  | m + 1 => by rw [strN_succ]; exact app_lt (strN_lt h n f m) (blkN_lt h n _)
/-- some of a number's stream -/
def atN (key : List Nat) (n from' len : Nat) : List Nat := (List.range len).map (fun j => sb key n (from' + j))
theorem atN_len (key : List Nat) (n f len : Nat) : (atN key n f len).length = len := by simp [atN]
theorem atN_get (key : List Nat) (n f : Nat) {len j : Nat} (h : j < len) : (atN key n f len).getD j 0 = sb key n (f + j) := by
  unfold atN
  rw [List.getD_eq_getElem?_getD, List.getElem?_map, List.getElem?_range h]
  rfl
theorem atN_lt {key : List Nat} (h : ∀ x ∈ key, x < 256) (n f len : Nat) : ∀ x ∈ atN key n f len, x < 256 := fun x hx => by
  obtain ⟨k, _, rfl⟩ := List.mem_map.1 hx
  exact sb_lt h _ _
theorem list_ext {a b : List Nat} (hl : a.length = b.length) (h : ∀ j, j < a.length → a.getD j 0 = b.getD j 0) : a = b := by
  refine List.ext_getElem hl (fun j h1 h2 => ?_)
  have := h j h1
  simpa [List.getD_eq_getElem?_getD, List.getElem?_eq_getElem h1, List.getElem?_eq_getElem h2] using this
theorem atN_cut (key : List Nat) (n f s len m : Nat) (h : s + len ≤ 16 * m) : ((strN key n f m).take (s + len)).drop s = atN key n (16 * f + s) len := by
  refine list_ext (by rw [List.length_drop, List.length_take, strN_len, atN_len]; omega) (fun j hj => ?_)
  rw [List.length_drop, List.length_take, strN_len] at hj
  rw [atN_get _ _ _ (by omega), List.getD_eq_getElem?_getD, List.getElem?_drop, List.getElem?_take, if_pos (by omega), ← List.getD_eq_getElem?_getD, strN_get _ _ _ _ _ (by omega), Nat.add_assoc]
/-- how many blocks are turned for it -/
def cntN (f len : Nat) : Nat := (f + len + 15) / 16 - f / 16
/-- bytes, hidden -/
def hideN (key : List Nat) (n : Nat) (b : List Nat) : List Nat := (List.range b.length).map (fun j => b.getD j 0 ^^^ sb key n j)
theorem hideN_len (key : List Nat) (n : Nat) (b : List Nat) : (hideN key n b).length = b.length := by simp [hideN]
theorem hideN_get (key : List Nat) (n : Nat) (b : List Nat) {j : Nat} (h : j < b.length) : (hideN key n b).getD j 0 = b.getD j 0 ^^^ sb key n j := by
  unfold hideN
  rw [List.getD_eq_getElem?_getD, List.getElem?_map, List.getElem?_range h]
  rfl
theorem hideN_lt {key : List Nat} (h : ∀ x ∈ key, x < 256) (n : Nat) {b : List Nat} (hb : ∀ x ∈ b, x < 256) : ∀ x ∈ hideN key n b, x < 256 := fun x hx => by
  obtain ⟨k, _, rfl⟩ := List.mem_map.1 hx
  exact xor8 (getD_lt0 (by decide) _ hb) (sb_lt h _ _)
theorem hideN_back (key : List Nat) (n : Nat) (b : List Nat) : hideN key n (hideN key n b) = b := by
  refine list_ext (by rw [hideN_len, hideN_len]) (fun j hj => ?_)
  rw [hideN_len, hideN_len] at hj
  rw [hideN_get _ _ _ (by rw [hideN_len]; exact hj), hideN_get _ _ _ hj, Nat.xor_assoc, Nat.xor_self, Nat.xor_zero]
/-- eight bytes are one number's -/
theorem be8_inj {n m : Nat} (hn : n < 2 ^ 64) (hm : m < 2 ^ 64) (h : be8 n = be8 m) : n = m := by
  have g : ∀ k, k < 8 → n / 256 ^ (7 - k) % 256 = m / 256 ^ (7 - k) % 256 := fun k hk => by rw [← be8_get n hk, ← be8_get m hk, h]
  have h0 := g 0 (by decide)
  have h1 := g 1 (by decide)
  have h2 := g 2 (by decide)
  have h3 := g 3 (by decide)
  have h4 := g 4 (by decide)
  have h5 := g 5 (by decide)
  have h6 := g 6 (by decide)
  have h7 := g 7 (by decide)
  simp only [show (256 : Nat) ^ (7 - 0) = 72057594037927936 from by decide, show (256 : Nat) ^ (7 - 1) = 281474976710656 from by decide, show (256 : Nat) ^ (7 - 2) = 1099511627776 from by decide, show (256 : Nat) ^ (7 - 3) = 4294967296 from by decide, show (256 : Nat) ^ (7 - 4) = 16777216 from by decide, show (256 : Nat) ^ (7 - 5) = 65536 from by decide, show (256 : Nat) ^ (7 - 6) = 256 from by decide, show (256 : Nat) ^ (7 - 7) = 1 from by decide, Nat.div_one] at h0 h1 h2 h3 h4 h5 h6 h7
  omega
theorem ctrB_inj {n m i k : Nat} (hn : n < 2 ^ 64) (hm : m < 2 ^ 64) (hi : i < 2 ^ 64) (hk : k < 2 ^ 64) (h : ctrB n i = ctrB m k) : n = m ∧ i = k := by
  have := List.append_inj h (by rw [be8_len, be8_len])
  exact ⟨be8_inj hn hm this.1, be8_inj hi hk this.2⟩
theorem blk_inj {key : List Nat} (hk8 : ∀ x ∈ key, x < 256) {n m i k : Nat} (hn : n < 2 ^ 64) (hm : m < 2 ^ 64) (hi : i < 2 ^ 64) (hk : k < 2 ^ 64) : blkN key n i = blkN key m k ↔ n = m ∧ i = k :=
  ⟨fun h => ctrB_inj hn hm hi hk (turn_inj hk8 (ctrB_len _ _) (ctrB_len _ _) (ctrB_lt _ _) (ctrB_lt _ _) h), fun ⟨h1, h2⟩ => by rw [h1, h2]⟩
theorem atN_blk (key : List Nat) (n i : Nat) : atN key n (16 * i) 16 = blkN key n i := by
  refine list_ext (by rw [atN_len, blkN_len]) (fun j hj => ?_)
  rw [atN_len] at hj
  rw [atN_get _ _ _ hj]
  unfold sb
  rw [show (16 * i + j) / 16 = i from by omega, show (16 * i + j) % 16 = j from by omega]
end Go.Proofs.Ytblnclooobggnaa.A
