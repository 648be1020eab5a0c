/-
  aes: double, RotateLeft8, affine, boxes, Box.
-/
import Derived.Test.YtblnclooobggnaaAa
import Derived.Test.YtblnclooobggnaaNt
import Derived.Test.YtblnclooobggnaaNo
import Derived.Test.YtblnclooobggnaaNe
import Derived.Test.YtblnclooobggnaaQf
namespace Go.Proofs.Ytblnclooobggnaa.A
open Go.RowKit Go.Proofs.Ytblnclooobggnaa.L Go.Proofs.Ytblnclooobggnaa.N Go.Proofs.YtblnclooobggnaaW.PrintWords

theorem and128 : ∀ b, b < 256 → b &&& 128 = if 128 ≤ b then 128 else 0 := by decide +kernel
theorem and8_128 (b : Nat) (h : b < 256) : bits .and .u8 (b : Int) 128 = ((if 128 ≤ b then 128 else 0 : Nat) : Int) := by
  have := u8_and_nat b 128 h (by decide)
  rw [and128 b h] at this
  exact this
set_option maxRecDepth 100000 in
theorem double_any (b : Nat) (w : World) (h : b < 256) : Calls Try.prog 57 #[.int .u8 (b : Int)] w fun e w' => e = .returned (.int .u8 (dbl b : Nat)) ∧ w' = w := by
  have ha0 := and8_128 b h
  by_cases h1 : 128 ≤ b
  · rw [if_pos h1] at ha0
    have ha : bits .and .u8 (b : Int) 128 = 128 := ha0
    have hx : bits .xor .u8 ((b : Int) * 2 % 256) 27 = ((dbl b : Nat) : Int) := by
      have := xor_u8 (2 * b % 256) 27 (Nat.mod_lt _ (by decide)) (by decide)
      rw [show dbl b = (2 * b % 256) ^^^ 27 from if_pos h1, show (b : Int) * 2 % 256 = ((2 * b % 256 : Nat) : Int) from by omega]
      exact this
    clear h1 ha0
    go_enter Try.func57, Try.ntmps57
    go_wp2_with fail
    go_ret
    exact ⟨rfl, rfl⟩
  · rw [if_neg h1] at ha0
    have ha : bits .and .u8 (b : Int) 128 = 0 := ha0
    have HE := Lib.hid (show (b : Int) * 2 = ((dbl b : Nat) : Int) from by rw [show dbl b = 2 * b from if_neg h1]; omega)
    have z1 : (b : Int) < 128 := by omega
    clear h1 ha0
    go_enter Try.func57, Try.ntmps57
    go_wp2_with fail
    go_ret
    exact ⟨by rw [← HE.out]; rfl, rfl⟩
theorem rl_or1 : ∀ v, v < 256 → (v * 2 % 256) ||| (v / 128) = rl v 1 := by decide +kernel
set_option maxRecDepth 100000 in
theorem rot1 (v : Nat) (w : World) (h : v < 256) : Calls Try.prog 73 #[.int .u8 (v : Int), .int .i64 1] w fun e w' => e = .returned (.int .u8 (rl v 1 : Nat)) ∧ w' = w := by
  have ho : bits .or .u8 ((v : Int) * 2 % 256) ((v : Int) / 128) = ((rl v 1 : Nat) : Int) := by
    have := or_u8 (v * 2 % 256) (v / 128) (Nat.mod_lt _ (by decide)) (by omega)
    rw [rl_or1 v h] at this
    exact this
  have r0 : bits BinOp.and IntKind.u64 1 7 = 1 := by kernel_rfl
  go_enter Try.func73, Try.ntmps73
  go_wp2_with fail
  go_ret
  exact ⟨rfl, rfl⟩
theorem rl_or2 : ∀ v, v < 256 → (v * 4 % 256) ||| (v / 64) = rl v 2 := by decide +kernel
set_option maxRecDepth 100000 in
theorem rot2 (v : Nat) (w : World) (h : v < 256) : Calls Try.prog 73 #[.int .u8 (v : Int), .int .i64 2] w fun e w' => e = .returned (.int .u8 (rl v 2 : Nat)) ∧ w' = w := by
  have ho : bits .or .u8 ((v : Int) * 4 % 256) ((v : Int) / 64) = ((rl v 2 : Nat) : Int) := by
    have := or_u8 (v * 4 % 256) (v / 64) (Nat.mod_lt _ (by decide)) (by omega)
    rw [rl_or2 v h] at this
    exact this
  have r0 : bits BinOp.and IntKind.u64 2 7 = 2 := by kernel_rfl
  go_enter Try.func73, Try.ntmps73
  go_wp2_with fail
  go_ret
  exact ⟨rfl, rfl⟩
theorem rl_or3 : ∀ v, v < 256 → (v * 8 % 256) ||| (v / 32) = rl v 3 := by decide +kernel
set_option maxRecDepth 100000 in
theorem rot3 (v : Nat) (w : World) (h : v < 256) : Calls Try.prog 73 #[.int .u8 (v : Int), .int .i64 3] w fun e w' => e = .returned (.int .u8 (rl v 3 : Nat)) ∧ w' = w := by
  have ho : bits .or .u8 ((v : Int) * 8 % 256) ((v : Int) / 32) = ((rl v 3 : Nat) : Int) := by
    have := or_u8 (v * 8 % 256) (v / 32) (Nat.mod_lt _ (by decide)) (by omega)
    rw [rl_or3 v h] at this
    exact this
  have r0 : bits BinOp.and IntKind.u64 3 7 = 3 := by kernel_rfl
  go_enter Try.func73, Try.ntmps73
  go_wp2_with fail
  go_ret
  exact ⟨rfl, rfl⟩
theorem rl_or4 : ∀ v, v < 256 → (v * 16 % 256) ||| (v / 16) = rl v 4 := by decide +kernel
set_option maxRecDepth 100000 in
theorem rot4 (v : Nat) (w : World) (h : v < 256) : Calls Try.prog 73 #[.int .u8 (v : Int), .int .i64 4] w fun e w' => e = .returned (.int .u8 (rl v 4 : Nat)) ∧ w' = w := by
  have ho : bits .or .u8 ((v : Int) * 16 % 256) ((v : Int) / 16) = ((rl v 4 : Nat) : Int) := by
    have := or_u8 (v * 16 % 256) (v / 16) (Nat.mod_lt _ (by decide)) (by omega)
    rw [rl_or4 v h] at this
    exact this
  have r0 : bits BinOp.and IntKind.u64 4 7 = 4 := by kernel_rfl
  go_enter Try.func73, Try.ntmps73
  go_wp2_with fail
  go_ret
  exact ⟨rfl, rfl⟩
theorem xor8n (a b : Nat) (ha : a < 256) (hb : b < 256) : bits .xor .u8 (a : Int) (b : Int) = ((a ^^^ b : Nat) : Int) := xor_u8 a b ha hb
set_option maxRecDepth 100000 in
set_option maxHeartbeats 1600000 in
theorem affine_any (v : Nat) (w : World) (h : v < 256) : Calls Try.prog 56 #[.int .u8 (v : Int)] w fun e w' => e = .returned (.int .u8 (aff v : Nat)) ∧ w' = w := by
  have l1 := rl_lt h (n := 1) (by decide) (by decide)
  have l2 := rl_lt h (n := 2) (by decide) (by decide)
  have l3 := rl_lt h (n := 3) (by decide) (by decide)
  have l4 := rl_lt h (n := 4) (by decide) (by decide)
  have x0 : bits .xor .u8 (v : Int) 99 = ((v ^^^ 99 : Nat) : Int) := xor8n v 99 h (by decide)
  have y0 : v ^^^ 99 < 256 := xor8 h (by decide)
  have x1 := xor8n _ _ y0 l1
  have y1 := xor8 y0 l1
  have x2 := xor8n _ _ y1 l2
  have y2 := xor8 y1 l2
  have x3 := xor8n _ _ y2 l3
  have y3 := xor8 y2 l3
  have x4 := xor8n _ _ y3 l4
  have HE := Lib.hid (show (v ^^^ 99) ^^^ rl v 1 ^^^ rl v 2 ^^^ rl v 3 ^^^ rl v 4 = aff v from rfl)
  have R1 := Lib.hid (fun W => rot1 v W h)
  have R2 := Lib.hid (fun W => rot2 v W h)
  have R3 := Lib.hid (fun W => rot3 v W h)
  have R4 := Lib.hid (fun W => rot4 v W h)
  generalize (v ^^^ 99) ^^^ rl v 1 ^^^ rl v 2 ^^^ rl v 3 ^^^ rl v 4 = a4 at *
  generalize (v ^^^ 99) ^^^ rl v 1 ^^^ rl v 2 ^^^ rl v 3 = a3 at *
  generalize (v ^^^ 99) ^^^ rl v 1 ^^^ rl v 2 = a2 at *
  generalize (v ^^^ 99) ^^^ rl v 1 = a1 at *
  generalize (v ^^^ 99) = a0 at *
  generalize rl v 1 = r1 at *
  generalize rl v 2 = r2 at *
  generalize rl v 3 = r3 at *
  generalize rl v 4 = r4 at *
  clear h l1 l2 l3 l4 y0 y1 y2 y3
  go_enter Try.func56, Try.ntmps56
  go_wp2_with fail
  refine wp_loop_rounds 5 ?_
  rw [rounds_succ]
  go_wp2_with fail
  refine (R1.out _).mono ?_
  rintro e w1 ⟨rfl, hw1⟩
  rw [hw1]
  clear hw1 w1
  go_wp2_with fail
  rw [rounds_succ]
  go_wp2_with fail
  refine (R2.out _).mono ?_
  rintro e w1 ⟨rfl, hw1⟩
  rw [hw1]
  clear hw1 w1
  go_wp2_with fail
  rw [rounds_succ]
  go_wp2_with fail
  refine (R3.out _).mono ?_
  rintro e w1 ⟨rfl, hw1⟩
  rw [hw1]
  clear hw1 w1
  go_wp2_with fail
  rw [rounds_succ]
  go_wp2_with fail
  refine (R4.out _).mono ?_
  rintro e w1 ⟨rfl, hw1⟩
  rw [hw1]
  clear hw1 w1
  go_wp2_with fail
  rw [rounds_succ]
  go_wp2_with fail
  go_ret
  exact ⟨by rw [← HE.out]; rfl, rfl⟩
abbrev t256 : TypeId := 54
theorem info_256 : (Try.prog.info? t256).map (·.size) = some 256 := by kernel_rfl
def z256 : List Nat := List.replicate 256 0
theorem bx_succ (i : Nat) : bx (i + 1) = ((bx i).1 ^^^ dbl (bx i).1, qs (bx i).2.1, (bx i).2.2.set (bx i).1 (aff (bx i).2.1)) := by rw [bx]
set_option maxRecDepth 100000 in
set_option maxHeartbeats 1600000 in
theorem boxes_any (w : World) : Calls Try.prog 35 #[] w fun e w' => e = .returned (.agg (arr .u8 boxT)) ∧ Below w.heap.size w w' := by
  go_enter Try.func35, Try.ntmps35
  go_upto_region 2 with (fail)
  refine wp_at fun W hW => ?_
  obtain ⟨h2, h4, hb, hsz⟩ := two_ab (k := .u8) (k' := .u8) z256 z256 hW
  have H2 := Lib.hid h2
  have H4 := Lib.hid (show AB .u8 t256 (w.heap.size + 1) (bx 0).2.2 W from h4)
  have HB := Lib.hid hb
  clear hW h2 h4 hb hsz
  go_wp2_with fail
  go_loopg [2, 3, 4] 257 (fun g v2 v3 v4 w' => ∃ i : Nat, v2 = .int .u8 ((bx i).1 : Nat) ∧ v3 = .int .u8 ((bx i).2.1 : Nat) ∧ v4 = .int .i64 (i : Int) ∧ Hid (i ≤ 255 ∧ 255 < g + i) ∧ Hid (AB .u8 t256 w.heap.size z256 w') ∧ Hid (AB .u8 t256 (w.heap.size + 1) (bx i).2.2 w') ∧ Hid (Below w.heap.size w w'))
  case atStart => exact ⟨0, rfl, rfl, rfl, Lib.hid ⟨by omega, by omega⟩, H2, H4, HB⟩
  case round =>
    obtain ⟨i, rfl, rfl, rfl, HJ, HZ, HO, HV⟩ := hrel
    clear H2 H4 HB
    cases gk with
    | zero => have := HJ.out; omega
    | succ k =>
      by_cases hi : i < 255
      · have HJ' := Lib.hid (show i < 255 ∧ 255 < (k + 1) + i from ⟨hi, HJ.out.2⟩)
        obtain ⟨b1, b2, b3, b4⟩ := bx_lt i
        have HS := Lib.hid (bx_succ i)
        have HL := Lib.hid b3
        generalize (bx i).2.2 = L at *
        generalize (bx i).1 = p at *
        generalize (bx i).2.1 = q at *
        have c0 := HO.out.cell (i := p) (by have := HL.out; omega)
        have f0 := HO.out.fz p
        have HA := Lib.hid (fun W => affine_any q W b2)
        have HD := Lib.hid (fun W => double_any p W b1)
        have xp := xor8n p (dbl p) b1 (dbl_lt b1)
        have k1 := q1_lt b2
        have k2 := q2_lt k1
        have k4 := q4_lt k2
        have x1 : bits .xor .u8 (q : Int) ((q : Int) * 2 % 256) = ((q1 q : Nat) : Int) := by
          have := xor8n q (2 * q % 256) b2 (Nat.mod_lt _ (by decide))
          rw [show (q : Int) * 2 % 256 = ((2 * q % 256 : Nat) : Int) from by omega]
          exact this
        have x2 : bits .xor .u8 ((q1 q : Nat) : Int) (((q1 q : Nat) : Int) * 4 % 256) = ((q2 (q1 q) : Nat) : Int) := by
          have := xor8n (q1 q) (4 * q1 q % 256) k1 (Nat.mod_lt _ (by decide))
          rw [show ((q1 q : Nat) : Int) * 4 % 256 = ((4 * q1 q % 256 : Nat) : Int) from by omega]
          exact this
        have x4 : bits .xor .u8 ((q2 (q1 q) : Nat) : Int) (((q2 (q1 q) : Nat) : Int) * 16 % 256) = ((q4 (q2 (q1 q)) : Nat) : Int) := by
          have := xor8n (q2 (q1 q)) (16 * q2 (q1 q) % 256) k2 (Nat.mod_lt _ (by decide))
          rw [show ((q2 (q1 q) : Nat) : Int) * 16 % 256 = ((16 * q2 (q1 q) % 256 : Nat) : Int) from by omega]
          exact this
        have HQs := Lib.hid (show qs q = q9 (q4 (q2 (q1 q))) from rfl)
        generalize q4 (q2 (q1 q)) = y4 at *
        generalize q2 (q1 q) = y2 at *
        generalize q1 q = y1 at *
        have ha0 := and8_128 y4 k4
        have x9 : bits .xor .u8 (y4 : Int) 9 = ((y4 ^^^ 9 : Nat) : Int) := xor8n y4 9 k4 (by decide)
        have z0 : (i : Int) < 255 := by omega
        have z1 : (0 : Int) ≤ (i : Int) := by omega
        have z2 : (p : Int) < 256 := by omega
        have z3 : (q : Int) < 256 := by omega
        have z4 : (y1 : Int) < 256 := by omega
        have z5 : (y2 : Int) < 256 := by omega
        have z6 : (y4 : Int) < 256 := by omega
        by_cases h1 : 128 ≤ y4
        · rw [if_pos h1] at ha0
          have ha : bits .and .u8 (y4 : Int) 128 = 128 := ha0
          have H9 := Lib.hid (show qs q = y4 ^^^ 9 from by rw [HQs.out]; exact if_pos h1)
          clear b1 b2 b3 b4 hi HJ h1 ha0 k1 k2 k4 HQs
          go_wp2_with (first
            | (go_at_call 56; refine (HA.out _).mono ?_; rintro e w1 ⟨rfl, hw1⟩; (rw [hw1]); clear hw1 w1)
            | (go_at_call 57; refine (HD.out _).mono ?_; rintro e w1 ⟨rfl, hw1⟩; (rw [hw1]); clear hw1 w1))
          go_roundg k
          case measure => have := HJ'.out; omega
          case rel => exact ⟨i + 1, by rw [HS.out], by rw [HS.out, H9.out], by go_num, Lib.hid (by have := HJ'.out; omega), Lib.hid (HZ.out.other (by omega)), Lib.hid (by rw [HS.out]; exact HO.out.set p (aff q)), Lib.hid (HV.out.setCell (p := ⟨w.heap.size + 1, p, none⟩) (Nat.le_succ _) _)⟩
        · rw [if_neg h1] at ha0
          have ha : bits .and .u8 (y4 : Int) 128 = 0 := ha0
          have H9 := Lib.hid (show qs q = y4 from by rw [HQs.out]; exact if_neg h1)
          clear b1 b2 b3 b4 hi HJ h1 ha0 k1 k2 k4 HQs
          go_wp2_with (first
            | (go_at_call 56; refine (HA.out _).mono ?_; rintro e w1 ⟨rfl, hw1⟩; (rw [hw1]); clear hw1 w1)
            | (go_at_call 57; refine (HD.out _).mono ?_; rintro e w1 ⟨rfl, hw1⟩; (rw [hw1]); clear hw1 w1))
          go_roundg k
          case measure => have := HJ'.out; omega
          case rel => exact ⟨i + 1, by rw [HS.out], by rw [HS.out, H9.out], by go_num, Lib.hid (by have := HJ'.out; omega), Lib.hid (HZ.out.other (by omega)), Lib.hid (by rw [HS.out]; exact HO.out.set p (aff q)), Lib.hid (HV.out.setCell (p := ⟨w.heap.size + 1, p, none⟩) (Nat.le_succ _) _)⟩
      · obtain rfl : i = 255 := by have := HJ.out; omega
        have HL := Lib.hid (bx_lt 255).2.2.1
        have HT := Lib.hid (show (bx 255).2.2.set 0 (aff 0) = boxT from rfl)
        generalize (bx 255).2.2 = L at *
        generalize (bx 255).1 = p at *
        generalize (bx 255).2.1 = q at *
        have c0 : wr.cell? ⟨w.heap.size + 1, 0, none⟩ = _ := HO.out.cell (i := 0) (by have := HL.out; omega)
        have f0 := HO.out.fz 0
        have HA := Lib.hid (fun W => affine_any 0 W (by decide))
        clear hi HJ
        go_upto_region 14 with (go_at_call 56; refine (HA.out _).mono ?_; rintro e w1 ⟨rfl, hw1⟩; (rw [hw1]); clear hw1 w1)
        refine wp_at fun W2 hW2 => ?_
        have HO2 := Lib.hid (show AB .u8 t256 (w.heap.size + 1) boxT W2 from by rw [hW2, ← HT.out]; exact HO.out.set 0 (aff 0))
        have HZ2 := Lib.hid (show AB .u8 t256 w.heap.size z256 W2 from by rw [hW2]; exact HZ.out.other (by omega))
        have HV2 := Lib.hid (show Below w.heap.size w W2 from by rw [hW2]; exact HV.out.setCell (p := ⟨w.heap.size + 1, 0, none⟩) (Nat.le_succ _) _)
        clear hW2 c0 f0 HO HZ HV
        have hi := info_256
        rw [← boxT_len] at hi
        have Hi := Lib.hid hi
        clear hi
        go_wp2_with (first
          | (refine load_ab .u8 (w.heap.size + 1) boxT rfl rfl rfl HO2.out Try.underlying54 Hi.out ?_)
          | (refine store_ab .u8 w.heap.size z256 boxT rfl rfl rfl rfl rfl HZ2.out Hi.out (by rw [boxT_len]; exact List.length_replicate) ?_; intro w9 h9 hg9; (have H9 := Lib.hid h9); (have HB9 := Lib.hid (below_grown HV2.out HV2.out.size hg9 (Nat.le_refl _))); clear h9 hg9))
        have hl := H9.out.load (P := Try.prog) Try.underlying54 Hi.out
        exact bodyPost_ret (v := .agg (arr .u8 boxT)) (by simp [results, Try.results35, hl, Act.put, asAddr]) rfl ⟨rfl, HB9.out⟩
theorem index_arrk {P : Program} {t e : TypeId} {n : Nat} {d : TypeDesc} (hu : P.underlying t = some (.array n e)) (he : P.underlying e = some d) (hd : d.isRow = false) (hs : (P.info? e).map (·.size) = some 1) (k : IntKind) (l : List Nat) (hl : l.length = n) (i : Nat) (hi : i < n) (kI : IntKind) (W : World) :
    (Instr.index t (.agg (arr k l)) (.int kI (i : Int))).run P W = .ok (.int k (l.getD i 0 : Nat)) W := by
  have hagg : (isAgg e).run P W = .ok false W := by
    unfold isAgg
    rw [Sem.run_bind, run_underlying he W]
    cases d <;> first | rfl | (simp [TypeDesc.isRow] at hd)
  cases hq : P.info? e with
  | none => simp [hq] at hs
  | some j =>
    have hj : j.size = 1 := by simpa [hq] using hs
    have hc : (0 : Int) ≤ (i : Int) ∧ (i : Int) < (n : Int) := ⟨by omega, by omega⟩
    have hg := arr_get? k l (i := i) (by omega)
    simp [Instr.index, run_underlying hu, asIntOf, hc, sizeOf, typeInfo, hq, hj, part, Sem.run_bind, hagg, hg, go_sem]
    intro h
    omega
set_option maxRecDepth 100000 in
theorem box_any (b : Nat) (w : World) (h : b < 256) : Calls Try.prog 14 #[.int .u8 (b : Int)] w fun e w' => e = .returned (.int .u8 (boxT.getD b 0 : Nat)) ∧ Below w.heap.size w w' := by
  have hix : ∀ W : World, (Instr.index t256 (.agg (arr .u8 boxT)) (.int .u8 (b : Int))).run Try.prog W = .ok (.int .u8 (boxT.getD b 0 : Nat)) W := fun W => index_arrk (n := 256) Try.underlying54 Try.underlying5 rfl (by kernel_rfl) .u8 boxT boxT_len b h .u8 W
  clear h
  go_enter Try.func14, Try.ntmps14
  go_wp2_with (go_at_call 35; refine (boxes_any _).mono ?_; rintro e w1 ⟨rfl, hb1⟩; (have HB1 := Lib.hid hb1); clear hb1)
  go_ret
  exact ⟨rfl, HB1.out⟩
end Go.Proofs.Ytblnclooobggnaa.A
