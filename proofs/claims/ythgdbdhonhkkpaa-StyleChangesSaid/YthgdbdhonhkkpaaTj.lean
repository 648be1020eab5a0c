/-
  style: the document's Change.
-/
import Derived.Test.YthgdbdhonhkkpaaTi
namespace Go.Proofs.Ythgdbdhonhkkpaa.St
open Go.RowKit Go.Proofs.Ythgdbdhonhkkpaa.L Go.Proofs.Ythgdbdhonhkkpaa.V Go.Proofs.Ythgdbdhonhkkpaa.N Go.Proofs.YthgdbdhonhkkpaaW.PrintWords

theorem RO.loadQ {b B : Nat} {l : List Bool} {a c : Nat} {w : World} (h : RO b l a c w) (hl : l.length = 8) (hb : b < B) : ∀ w', (∃ m : Q.GW w B none, w' = m.w) → (Instr.loadAt tR (.pointer (some ⟨b, 0, none⟩))).run Try.prog w' = .ok (.agg (rfA l a c)) w' := by
  rintro w' ⟨m, rfl⟩
  have h2 : RO b l a c m.w := (m.h.block b hb (by simp)).trans h
  have := h2.load hl
  simp only [Instr.loadAt, Instr.sureAddr, Sem.run_bind, Sem.run_pure, this, Result.andThen]
theorem RO.drew {b : Nat} {l : List Bool} {a c : Nat} {w : World} (h : RO b l a c w) : RO b l a c w.drew := h
structure CJ (s : Sty) (w w' : World) (s1 : Sty) : Prop where
  ob : RO w.heap.size (blN s1.1) s1.2.1 s1.2.2 w'
  res : RO (w.heap.size + 1) f8 0 0 w'
  bel : Below w.heap.size w w'
  ok : okS s1
theorem drop_cons {l : List Int} {i : Nat} (h : i < l.length) : l.drop i = l.getD i 0 :: l.drop (i + 1) := by
  rw [List.drop_eq_getElem_cons h, List.getD_eq_getElem?_getD, List.getElem?_eq_getElem h]
  rfl
theorem drop_get (l : List Int) (i j : Nat) : (l.drop i).getD j 0 = l.getD (i + j) 0 := by
  rw [List.getD_eq_getElem?_getD, List.getElem?_drop, ← List.getD_eq_getElem?_getD]
set_option maxRecDepth 100000 in
set_option maxHeartbeats 6400000 in
theorem rchange_any (s : Sty) (l : List Int) (A : Option Addr) (c : Nat) (w : World) (hs : okS s) (hC : (Kd.int .i64).C w A l.length l) (hll : l.length ≤ 1000000) :
    Calls Try.prog 41 #[.agg (rsA s), .slice A l.length c] w fun e w' => e = .returned (.agg (rsA (chgS s l))) ∧ Below w.heap.size w w' := by
  have h2 := two_RO (blN s.1) f8 s.2.1 s.2.2 0 0 (W := (w.alloc (.cells (rfA (blN s.1) s.2.1 s.2.2) tR)).alloc (.cells (rfA f8 0 0) tR)) rfl
  have HX := Lib.hid h2.1
  have HY := Lib.hid h2.2.1
  have HB := Lib.hid h2.2.2
  by_cases h0 : l = []
  · subst h0
    clear h2 hs hC hll
    go_enter Try.func41, Try.ntmps41
    go_upto_region 1 with (fail)
    refine wp_at fun W hW => ?_
    have hW2 : W = (w.alloc (.cells (rfA (blN s.1) s.2.1 s.2.2) tR)).alloc (.cells (rfA f8 0 0) tR) := hW.trans rfl
    rw [← hW2] at HX HY HB
    clear hW hW2
    go_wp2_with (refine store_obj (w.heap.size + 1) (rfA f8 0 0) (rfA f8 0 0) rfl rfl rfl rfl rfl HY.out (by rw [rfA_size rfl]; exact info_R) rfl (rfA_one _ _ _) ?_; intro w9 h9 hg9; (have H9 := Lib.hid (show RO (w.heap.size + 1) f8 0 0 w9 from h9)); (have HB9 := Lib.hid (below_grown HB.out HB.out.size hg9 (Nat.le_succ _))); clear h9 hg9)
    have hl := H9.out.load rfl
    exact bodyPost_ret (v := .agg (rsA (0, 0, 0))) (by simp [results, Try.results41, asAddr]; exact hl) rfl ⟨rfl, HB9.out⟩
  have hpos : 0 < l.length := List.length_pos_iff.2 h0
  have HG := Lib.hid (show chgS s l = chgG l s from if_neg h0)
  have t0 : ((l.length : Int) == 0) = false := by rw [beq_eq_false_iff_ne]; omega
  have t0n : (l.length == 0) = false := by rw [beq_eq_false_iff_ne]; omega
  have HC := Lib.hid hC
  have HS := Lib.hid hs
  have zl : (l.length : Int) ≤ 1000000 := by omega
  have HLl := Lib.hid hll
  obtain ⟨b, off, rfl, hb, hcell⟩ := (C_open hC).2.resolve_left h0
  have HCell := Lib.hid (show ∀ (W : World), Below w.heap.size w W → ∀ j, j < l.length → W.cell? ⟨b, off + j, none⟩ = some (.int .i64 (l.getD j 0)) from fun W hB j hj => (hB.cell (p := ⟨b, off + j, none⟩) hb).trans (hcell j hj))
  have HBl := Lib.hid (show ∀ W : World, Below w.heap.size w W → b < W.heap.size from fun W hB => Nat.lt_of_lt_of_le hb hB.size)
  clear h2 hs hC h0 hpos hb hcell hll
  go_enter Try.func41, Try.ntmps41
  go_upto_region 1 with (fail)
  refine wp_at fun W hW => ?_
  have hW2 : W = (w.alloc (.cells (rfA (blN s.1) s.2.1 s.2.2) tR)).alloc (.cells (rfA f8 0 0) tR) := hW.trans rfl
  rw [← hW2] at HX HY HB
  clear hW hW2
  have M0 := Lib.hid (show CJ s w W s from ⟨HX.out, HY.out, HB.out, HS.out⟩)
  clear HX HY HB
  go_wp2_with fail
  clear t0 t0n
  go_loopg [5] (2 * l.length + 3) (fun g v5 w' => ∃ (i : Nat) (s1 : Sty), v5 = .int .i64 (i : Int) ∧ Hid (i ≤ 2 * l.length + 1 ∧ 2 * l.length + 1 < g + i) ∧ Hid (CJ s w w' s1) ∧ Hid (chgG (l.drop i) s1 = chgG l s))
  case atStart => exact ⟨0, s, rfl, Lib.hid ⟨by omega, by omega⟩, M0, Lib.hid (by rw [List.drop_zero])⟩
  case round =>
    obtain ⟨i, s1, rfl, HJ, HI, HR⟩ := hrel
    clear M0
    cases gk with
    | zero => have := HJ.out; omega
    | succ k =>
      by_cases hi : i < l.length
      · have HJ' := Lib.hid (show i < l.length ∧ 2 * l.length + 1 < (k + 1) + i from ⟨hi, HJ.out.2⟩)
        have t1 : decide ((i : Int) < (l.length : Int)) = true := decide_eq_true (by omega)
        have t1n : decide (i < l.length) = true := decide_eq_true hi
        have z1 : (i : Int) < (l.length : Int) := by omega
        have z2 : (0 : Int) ≤ (i : Int) := by omega
        have hR := HR.out
        rw [drop_cons hi] at hR
        have c0 := HCell.out wr HI.out.bel i hi
        obtain ⟨n, hn⟩ : ∃ n, l.getD i 0 = n := ⟨_, rfl⟩
        rw [hn] at hR c0
        obtain ⟨r, hr⟩ : ∃ r, l.drop (i + 1) = r := ⟨_, rfl⟩
        have hrl : r.length = l.length - (i + 1) := by rw [← hr, List.length_drop]
        rw [hr] at hR
        have HD := Lib.hid (show ∀ m, r.drop m = l.drop (i + m + 1) from fun m => by rw [← hr, List.drop_drop]; congr 1; omega)
        have HRg := Lib.hid (show ∀ j, r.getD j 0 = l.getD (i + 1 + j) 0 from fun j => by rw [← hr]; exact drop_get l (i + 1) j)
        have HRl := Lib.hid hrl
        clear hn hr hrl HR HJ hi
        by_cases hc : n = 38 ∨ n = 48
        · rw [chgG_col _ _ hc] at hR
          have HOk := Lib.hid (set_ok n r HI.out.ok)
          have t2 : (n != 38 && n != 48) = false := by rcases hc with h | h <;> subst h <;> rfl
          unfold setC at hR HOk
          by_cases hA : 2 ≤ r.length ∧ r.getD 0 0 = 5
          · have HL2 := Lib.hid (show i + 2 < l.length from by have := HRl.out; omega)
            have t3 : decide ((i : Int) + 2 < (l.length : Int)) = true := decide_eq_true (by have := HL2.out; omega)
            have z3 : (i : Int) + 2 < (l.length : Int) := by have := HL2.out; omega
            have c1 := HCell.out wr HI.out.bel (i + 1) (by have := HL2.out; omega)
            have c2 := HCell.out wr HI.out.bel (i + 2) (by have := HL2.out; omega)
            have e1 : l.getD (i + 1) 0 = 5 := by rw [← hA.2]; exact (HRg.out 0).symm
            rw [e1] at c1
            have e2 : l.getD (i + 2) 0 = r.getD 1 0 := (HRg.out 1).symm
            obtain ⟨x, hx⟩ : ∃ x, r.getD 1 0 = x := ⟨_, rfl⟩
            rw [e2, hx] at c2
            have hcr : colR r = ((16777216 + x % 256).toNat, 2, smallB x) := by rw [← hx]; exact if_pos hA
            clear e1 e2 hx hA
            by_cases hsx : 0 ≤ x ∧ x ≤ 255
            · have HS1 := Lib.hid (show smallB x = true from decide_eq_true hsx)
              obtain ⟨cc, hcc⟩ : ∃ cc : Nat, 16777216 + x = (cc : Int) := ⟨(16777216 + x).toNat, by omega⟩
              rw [HS1.out, show (16777216 + x % 256).toNat = cc from by omega] at hcr
              have z5 : 0 ≤ x := hsx.1
              have z6 : x ≤ 255 := hsx.2
              have zc : (cc : Int) < 33554432 := by omega
              clear hsx
              rw [hcr] at hR HOk
              dsimp only at hR HOk
              rw [if_pos rfl] at hR HOk
              have d8 := HI.out.ob.c8 (blN_len _)
              have d9 := HI.out.ob.c9 (blN_len _)
              have g8 := HI.out.ob.fz 8
              have g9 := HI.out.ob.fz 9
              rcases hc with h | h <;> subst h
              · rw [if_pos rfl] at hR HOk
                have HR2 := Lib.hid hR
                clear hR hcr t2
                go_wp2_with (go_at_call 74; refine (small_any _ _).mono ?_; rintro e w1 ⟨rfl, hw1⟩; (rw [hw1]); rw [HS1.out]; clear hw1 w1)
                go_roundg k
                case measure => have := HJ'.out; omega
                case rel => exact ⟨i + 2 + 1, (s1.1, cc, s1.2.2), by go_num, Lib.hid (by have := HJ'.out; omega), Lib.hid ⟨HI.out.ob.s8 (blN_len _) cc, HI.out.res.grown (grown_set _ _ _ _) (by omega), HI.out.bel.setCell (p := ⟨w.heap.size, 8, none⟩) (Nat.le_refl _) _, HOk.out⟩, Lib.hid (by rw [← HD.out]; exact HR2.out)⟩
              · rw [if_neg (by decide)] at hR HOk
                have HR2 := Lib.hid hR
                clear hR hcr t2
                go_wp2_with (go_at_call 74; refine (small_any _ _).mono ?_; rintro e w1 ⟨rfl, hw1⟩; (rw [hw1]); rw [HS1.out]; clear hw1 w1)
                go_roundg k
                case measure => have := HJ'.out; omega
                case rel => exact ⟨i + 2 + 1, (s1.1, s1.2.1, cc), by go_num, Lib.hid (by have := HJ'.out; omega), Lib.hid ⟨HI.out.ob.s9 (blN_len _) cc, HI.out.res.grown (grown_set _ _ _ _) (by omega), HI.out.bel.setCell (p := ⟨w.heap.size, 9, none⟩) (Nat.le_refl _) _, HOk.out⟩, Lib.hid (by rw [← HD.out]; exact HR2.out)⟩
            · have HS1 := Lib.hid (show smallB x = false from decide_eq_false hsx)
              rw [HS1.out] at hcr
              clear hsx
              rw [hcr] at hR HOk
              dsimp only at hR HOk
              rw [if_neg (by decide)] at hR HOk
              have HR2 := Lib.hid hR
              clear hR hcr
              rcases hc with h | h <;> subst h
              all_goals
                clear t2
                go_wp2_with (go_at_call 74; refine (small_any _ _).mono ?_; rintro e w1 ⟨rfl, hw1⟩; (rw [hw1]); rw [HS1.out]; clear hw1 w1)
                go_roundg k
                case measure => have := HJ'.out; omega
                case rel => exact ⟨i + 2 + 1, s1, by go_num, Lib.hid (by have := HJ'.out; omega), Lib.hid ⟨HI.out.ob, HI.out.res, HI.out.bel, HOk.out⟩, Lib.hid (by rw [← HD.out]; exact HR2.out)⟩
          have HNA := Lib.hid hA
          by_cases hB : 4 ≤ r.length ∧ r.getD 0 0 = 2
          · have HL2 := Lib.hid (show i + 4 < l.length from by have := HRl.out; omega)
            have t3 : decide ((i : Int) + 2 < (l.length : Int)) = true := decide_eq_true (by have := HL2.out; omega)
            have t4 : decide ((i : Int) + 4 < (l.length : Int)) = true := decide_eq_true (by have := HL2.out; omega)
            have z3 : (i : Int) + 4 < (l.length : Int) := by have := HL2.out; omega
            have c1 := HCell.out wr HI.out.bel (i + 1) (by have := HL2.out; omega)
            have c2 := HCell.out wr HI.out.bel (i + 2) (by have := HL2.out; omega)
            have c3 := HCell.out wr HI.out.bel (i + 3) (by have := HL2.out; omega)
            have c4 := HCell.out wr HI.out.bel (i + 4) (by have := HL2.out; omega)
            have e1 : l.getD (i + 1) 0 = 2 := by rw [← hB.2]; exact (HRg.out 0).symm
            rw [e1] at c1
            have e2 : l.getD (i + 2) 0 = r.getD 1 0 := (HRg.out 1).symm
            have e3 : l.getD (i + 3) 0 = r.getD 2 0 := (HRg.out 2).symm
            have e4 : l.getD (i + 4) 0 = r.getD 3 0 := (HRg.out 3).symm
            have hcr : colR r = ((33554432 + 65536 * (r.getD 1 0 % 256) + 256 * (r.getD 2 0 % 256) + r.getD 3 0 % 256).toNat, 4, smallB (r.getD 1 0) && smallB (r.getD 2 0) && smallB (r.getD 3 0)) := by
              unfold colR
              rw [if_neg hA, if_pos hB]
            rw [e2] at c2
            rw [e3] at c3
            rw [e4] at c4
            clear e1 e2 e3 e4 hA hB
            generalize r.getD 1 0 = x at *
            generalize r.getD 2 0 = y at *
            generalize r.getD 3 0 = z at *
            by_cases hsx : 0 ≤ x ∧ x ≤ 255
            · have HS1 := Lib.hid (show smallB x = true from decide_eq_true hsx)
              have hm1 := small_any x
              rw [HS1.out] at hm1 hcr
              by_cases hsy : 0 ≤ y ∧ y ≤ 255
              · have HS2 := Lib.hid (show smallB y = true from decide_eq_true hsy)
                have hm2 := small_any y
                rw [HS2.out] at hm2 hcr
                by_cases hsz : 0 ≤ z ∧ z ≤ 255
                · have HS3 := Lib.hid (show smallB z = true from decide_eq_true hsz)
                  have hm3 := small_any z
                  rw [HS3.out] at hm3 hcr
                  obtain ⟨cc, hcc⟩ : ∃ cc : Nat, 33554432 + 65536 * x + 256 * y + z = (cc : Int) := ⟨(33554432 + 65536 * x + 256 * y + z).toNat, by omega⟩
                  rw [show (true && true && true) = true from rfl] at hcr
                  rw [show (33554432 + 65536 * (x % 256) + 256 * (y % 256) + z % 256).toNat = cc from by omega] at hcr
                  have z5 : 0 ≤ x := hsx.1
                  have z6 : x ≤ 255 := hsx.2
                  have z7 : 0 ≤ y := hsy.1
                  have z8 : y ≤ 255 := hsy.2
                  have z9 : 0 ≤ z := hsz.1
                  have z10 : z ≤ 255 := hsz.2
                  have zc : (cc : Int) < 50331648 := by omega
                  have HM := Lib.hid hm1
                  have HM2 := Lib.hid hm2
                  have HM3 := Lib.hid hm3
                  clear hsx hsy hsz hm1 hm2 hm3
                  rw [hcr] at hR HOk
                  dsimp only at hR HOk
                  rw [if_pos rfl] at hR HOk
                  have d8 := HI.out.ob.c8 (blN_len _)
                  have d9 := HI.out.ob.c9 (blN_len _)
                  have g8 := HI.out.ob.fz 8
                  have g9 := HI.out.ob.fz 9
                  rcases hc with h | h <;> subst h
                  · rw [if_pos rfl] at hR HOk
                    have HR2 := Lib.hid hR
                    clear hR hcr t2
                    go_wp2_with (go_at_call 74; refine (small_any _ _).mono ?_; rintro e w1 ⟨rfl, hw1⟩; (rw [hw1]); clear hw1 w1; (first | rw [HS1.out] | rw [HS2.out] | rw [HS3.out]))
                    have hbw : b < wr.heap.size := HBl.out wr HI.out.bel
                    have q2 := gw hbw c2
                    have q3 := gw hbw c3
                    have q4 := gw hbw c4
                    clear hbw
                    refine Q.wp_region_segs none [([0, 1, 2, 3, 4, 5, 6, 7, 8, 9, 10, 11, 12, 13, 14, 15, 16, 17, 18, 19, 20, 21, 22, 23], none)] (by kernel_rfl) (by kernel_rfl) (by kernel_rfl) (by kernel_rfl) ?_
                    dsimp only [Q.wpSegs, Q.picks, Q.pick]
                    repeat (go_big_quiet_step (fail))
                    refine wpQuiet_nil ?_
                    refine NoPanic.normal ?_
                    clear q2 q3 q4
                    have d8 := HI.out.ob.drew.c8 (blN_len _)
                    have d9 := HI.out.ob.drew.c9 (blN_len _)
                    have g8 := HI.out.ob.drew.fz 8
                    have g9 := HI.out.ob.drew.fz 9
                    have c0 : wr.drew.cell? ⟨b, off + i, none⟩ = _ := c0
                    go_wp2_with fail
                    go_roundg k
                    case measure => have := HJ'.out; omega
                    case rel => exact ⟨i + 4 + 1, (s1.1, cc, s1.2.2), by go_num, Lib.hid (by have := HJ'.out; omega), Lib.hid ⟨HI.out.ob.drew.s8 (blN_len _) cc, HI.out.res.drew.grown (grown_set _ _ _ _) (by omega), HI.out.bel.drew.setCell (p := ⟨w.heap.size, 8, none⟩) (Nat.le_refl _) _, HOk.out⟩, Lib.hid (by rw [← HD.out]; exact HR2.out)⟩
                  · rw [if_neg (by decide)] at hR HOk
                    have HR2 := Lib.hid hR
                    clear hR hcr t2
                    go_wp2_with (go_at_call 74; refine (small_any _ _).mono ?_; rintro e w1 ⟨rfl, hw1⟩; (rw [hw1]); clear hw1 w1; (first | rw [HS1.out] | rw [HS2.out] | rw [HS3.out]))
                    have hbw : b < wr.heap.size := HBl.out wr HI.out.bel
                    have q2 := gw hbw c2
                    have q3 := gw hbw c3
                    have q4 := gw hbw c4
                    clear hbw
                    refine Q.wp_region_segs none [([0, 1, 2, 3, 4, 5, 6, 7, 8, 9, 10, 11, 12, 13, 14, 15, 16, 17, 18, 19, 20, 21, 22, 23], none)] (by kernel_rfl) (by kernel_rfl) (by kernel_rfl) (by kernel_rfl) ?_
                    dsimp only [Q.wpSegs, Q.picks, Q.pick]
                    repeat (go_big_quiet_step (fail))
                    refine wpQuiet_nil ?_
                    refine NoPanic.normal ?_
                    clear q2 q3 q4
                    have d8 := HI.out.ob.drew.c8 (blN_len _)
                    have d9 := HI.out.ob.drew.c9 (blN_len _)
                    have g8 := HI.out.ob.drew.fz 8
                    have g9 := HI.out.ob.drew.fz 9
                    have c0 : wr.drew.cell? ⟨b, off + i, none⟩ = _ := c0
                    go_wp2_with fail
                    go_roundg k
                    case measure => have := HJ'.out; omega
                    case rel => exact ⟨i + 4 + 1, (s1.1, s1.2.1, cc), by go_num, Lib.hid (by have := HJ'.out; omega), Lib.hid ⟨HI.out.ob.drew.s9 (blN_len _) cc, HI.out.res.drew.grown (grown_set _ _ _ _) (by omega), HI.out.bel.drew.setCell (p := ⟨w.heap.size, 9, none⟩) (Nat.le_refl _) _, HOk.out⟩, Lib.hid (by rw [← HD.out]; exact HR2.out)⟩
                · have HS3 := Lib.hid (show smallB z = false from decide_eq_false hsz)
                  rw [HS3.out] at hcr
                  rw [show (true && true && false) = false from rfl] at hcr
                  clear hsx hsy hsz hm1 hm2
                  rw [hcr] at hR HOk
                  dsimp only at hR HOk
                  rw [if_neg (by decide)] at hR HOk
                  have HR2 := Lib.hid hR
                  clear hR hcr
                  rcases hc with h | h <;> subst h
                  all_goals
                    clear t2
                    go_wp2_with (go_at_call 74; refine (small_any _ _).mono ?_; rintro e w1 ⟨rfl, hw1⟩; (rw [hw1]); clear hw1 w1; (first | rw [HS1.out] | rw [HS2.out] | rw [HS3.out]))
                    go_roundg k
                    case measure => have := HJ'.out; omega
                    case rel => exact ⟨i + 4 + 1, s1, by go_num, Lib.hid (by have := HJ'.out; omega), Lib.hid ⟨HI.out.ob, HI.out.res, HI.out.bel, HOk.out⟩, Lib.hid (by rw [← HD.out]; exact HR2.out)⟩
              · have HS2 := Lib.hid (show smallB y = false from decide_eq_false hsy)
                have HS3 := Lib.hid True.intro
                rw [HS2.out] at hcr
                rw [show (true && false && smallB z) = false from rfl] at hcr
                clear hsx hsy hm1
                rw [hcr] at hR HOk
                dsimp only at hR HOk
                rw [if_neg (by decide)] at hR HOk
                have HR2 := Lib.hid hR
                clear hR hcr
                rcases hc with h | h <;> subst h
                all_goals
                  clear t2
                  go_wp2_with (go_at_call 74; refine (small_any _ _).mono ?_; rintro e w1 ⟨rfl, hw1⟩; (rw [hw1]); clear hw1 w1; (first | rw [HS1.out] | rw [HS2.out]))
                  go_roundg k
                  case measure => have := HJ'.out; omega
                  case rel => exact ⟨i + 4 + 1, s1, by go_num, Lib.hid (by have := HJ'.out; omega), Lib.hid ⟨HI.out.ob, HI.out.res, HI.out.bel, HOk.out⟩, Lib.hid (by rw [← HD.out]; exact HR2.out)⟩
            · have HS1 := Lib.hid (show smallB x = false from decide_eq_false hsx)
              rw [HS1.out] at hcr
              rw [show (false && smallB y && smallB z) = false from by rw [Bool.false_and, Bool.false_and]] at hcr
              clear hsx
              rw [hcr] at hR HOk
              dsimp only at hR HOk
              rw [if_neg (by decide)] at hR HOk
              have HR2 := Lib.hid hR
              clear hR hcr
              rcases hc with h | h <;> subst h
              all_goals
                clear t2
                go_wp2_with (go_at_call 74; refine (small_any _ _).mono ?_; rintro e w1 ⟨rfl, hw1⟩; (rw [hw1]); clear hw1 w1; rw [HS1.out])
                go_roundg k
                case measure => have := HJ'.out; omega
                case rel => exact ⟨i + 4 + 1, s1, by go_num, Lib.hid (by have := HJ'.out; omega), Lib.hid ⟨HI.out.ob, HI.out.res, HI.out.bel, HOk.out⟩, Lib.hid (by rw [← HD.out]; exact HR2.out)⟩
          have hcr : colR r = (0, r.length, false) := by
            unfold colR
            rw [if_neg hA, if_neg hB]
          have HNB := Lib.hid hB
          by_cases h2 : r.length < 2
          · have t3 : decide ((i : Int) + 2 < (l.length : Int)) = false := decide_eq_false (by have := HRl.out; have := HJ'.out; omega)
            have t4 : decide ((i : Int) + 4 < (l.length : Int)) = false := decide_eq_false (by have := HRl.out; have := HJ'.out; omega)
            clear hA hB h2
            rw [hcr] at hR HOk
            dsimp only at hR HOk
            rw [if_neg (by decide)] at hR HOk
            have HR2 := Lib.hid hR
            clear hR hcr
            rcases hc with h | h <;> subst h
            all_goals
              clear t2
              go_wp2_with fail
              go_roundg k
              case measure => have := HJ'.out; omega
              case rel => exact ⟨i + l.length + 1, s1, by go_num, Lib.hid (by have := HJ'.out; omega), Lib.hid ⟨HI.out.ob, HI.out.res, HI.out.bel, HOk.out⟩, Lib.hid (by have h := HR2.out; rw [List.drop_length] at h; rw [List.drop_of_length_le (by omega)]; exact h)⟩
          have t3 : decide ((i : Int) + 2 < (l.length : Int)) = true := decide_eq_true (by have := HRl.out; have := HJ'.out; omega)
          have z3 : (i : Int) + 2 < (l.length : Int) := by have := HRl.out; have := HJ'.out; omega
          have c1 := HCell.out wr HI.out.bel (i + 1) (by have := HRl.out; omega)
          have e1 : l.getD (i + 1) 0 = r.getD 0 0 := (HRg.out 0).symm
          rw [e1] at c1
          clear e1
          have h5 : r.getD 0 0 ≠ 5 := fun h => hA ⟨by omega, h⟩
          have t5 : (r.getD 0 0 == 5) = false := by rw [beq_eq_false_iff_ne]; exact h5
          by_cases h4 : r.length < 4
          · have t4 : decide ((i : Int) + 4 < (l.length : Int)) = false := decide_eq_false (by have := HRl.out; have := HJ'.out; omega)
            clear hA hB h2 h4 h5
            generalize r.getD 0 0 = x at *
            rw [hcr] at hR HOk
            dsimp only at hR HOk
            rw [if_neg (by decide)] at hR HOk
            have HR2 := Lib.hid hR
            clear hR hcr
            rcases hc with h | h <;> subst h
            all_goals
              clear t2
              go_wp2_with fail
              go_roundg k
              case measure => have := HJ'.out; omega
              case rel => exact ⟨i + l.length + 1, s1, by go_num, Lib.hid (by have := HJ'.out; omega), Lib.hid ⟨HI.out.ob, HI.out.res, HI.out.bel, HOk.out⟩, Lib.hid (by have h := HR2.out; rw [List.drop_length] at h; rw [List.drop_of_length_le (by omega)]; exact h)⟩
          have t4 : decide ((i : Int) + 4 < (l.length : Int)) = true := decide_eq_true (by have := HRl.out; have := HJ'.out; omega)
          have h6 : r.getD 0 0 ≠ 2 := fun h => hB ⟨by omega, h⟩
          have t6 : (r.getD 0 0 == 2) = false := by rw [beq_eq_false_iff_ne]; exact h6
          clear hA hB h2 h4 h5 h6
          generalize r.getD 0 0 = x at *
          rw [hcr] at hR HOk
          dsimp only at hR HOk
          rw [if_neg (by decide)] at hR HOk
          have HR2 := Lib.hid hR
          clear hR hcr
          rcases hc with h | h <;> subst h
          all_goals
            clear t2
            go_wp2_with fail
            go_roundg k
            case measure => have := HJ'.out; omega
            case rel => exact ⟨i + l.length + 1, s1, by go_num, Lib.hid (by have := HJ'.out; omega), Lib.hid ⟨HI.out.ob, HI.out.res, HI.out.bel, HOk.out⟩, Lib.hid (by have h := HR2.out; rw [List.drop_length] at h; rw [List.drop_of_length_le (by omega)]; exact h)⟩
        · have t2 : (n != 38) = true := by rw [bne_iff_ne]; omega
          have t3 : (n != 48) = true := by rw [bne_iff_ne]; omega
          rw [chgG_plain _ _ hc] at hR
          have HR2 := Lib.hid hR
          clear hR hc
          go_wp2_with fail
          have q0 := gw (HBl.out wr HI.out.bel) c0
          refine Q.wp_region_segsF none [([0, 1, 2, 3, 4], some 5)] [] 6 (by kernel_rfl) (by kernel_rfl) (by kernel_rfl) (by kernel_rfl) ?_
          dsimp only [Q.wpSegsF, Q.picks, Q.pick]
          refine quiet_load tR (.tmp 2) (.pointer (some ⟨w.heap.size, 0, none⟩)) (.agg (rfA (blN s1.1) s1.2.1 s1.2.2)) rfl rfl rfl (HI.out.ob.drew.loadQ (blN_len _) HI.out.ob.lt) ?_
          go_simp
          repeat (go_big_quiet_step (fail))
          refine wpQuiet_nil ?_
          clear q0
          go_wp2_with (go_at_call 73; refine (one_any s1 n wr.drew HI.out.ok).mono ?_; rintro e w1 ⟨rfl, hb1⟩; (have HO1 := Lib.hid (HI.out.ob.drew.below hb1)); (have HR1 := Lib.hid (HI.out.res.drew.below hb1)); (have HB1 := Lib.hid (HI.out.bel.drew.trans (hb1.mono HI.out.bel.drew.size))); (have Hb1 := Lib.hid hb1); clear hb1)
          refine Q.ev_keep Hb1.out (Nat.le_refl _) ?_
          refine wpQuiet_nil ?_
          go_wp2_with (refine store_obj w.heap.size (rfA (blN s1.1) s1.2.1 s1.2.2) (rsA (plainS s1 n)) rfl rfl rfl rfl rfl HO1.out (by rw [rsA, rfA_size (blN_len _)]; exact info_R) (by rw [rsA, rfA_size (blN_len _), rfA_size (blN_len _)]) (rfA_one _ _ _) ?_; intro w9 h9 hg9; (have H9 := Lib.hid (show RO w.heap.size (blN (plainS s1 n).1) (plainS s1 n).2.1 (plainS s1 n).2.2 w9 from h9)); (have HR9 := Lib.hid (HR1.out.grown hg9 (by omega))); (have HB9 := Lib.hid (below_grown HB1.out HB1.out.size hg9 (Nat.le_refl _))); clear h9 hg9)
          refine NoPanic.normal ?_
          go_wp2_with fail
          go_roundg k
          case measure => have := HJ'.out; omega
          case rel => exact ⟨i + 1, plainS s1 n, by go_num, Lib.hid (by have := HJ'.out; omega), Lib.hid ⟨H9.out, HR9.out, HB9.out, plain_ok n HI.out.ok⟩, Lib.hid (by have h := HD.out 0; rw [List.drop_zero] at h; rw [show i + 1 = i + 0 + 1 from rfl, ← h]; exact HR2.out)⟩
      · have hd := HR.out
        rw [List.drop_of_length_le (by omega), chgG_nil] at hd
        have HE := Lib.hid (show rsA (chgS s l) = rfA (blN s1.1) s1.2.1 s1.2.2 from by rw [HG.out, ← hd]; rfl)
        have t1 : decide ((i : Int) < (l.length : Int)) = false := decide_eq_false (by omega)
        have t1n : decide (i < l.length) = false := decide_eq_false hi
        clear hd hi HR
        go_wp2_with (first
          | (refine load_obj w.heap.size (rfA (blN s1.1) s1.2.1 s1.2.2) rfl rfl rfl (HI.out.ob.load (blN_len _)) ?_)
          | (refine store_obj (w.heap.size + 1) (rfA f8 0 0) (rfA (blN s1.1) s1.2.1 s1.2.2) rfl rfl rfl rfl rfl HI.out.res (by rw [rfA_size (blN_len _)]; exact info_R) (by rw [rfA_size (blN_len _)]; rfl) (rfA_one _ _ _) ?_; intro w9 h9 hg9; (have H9 := Lib.hid (show RO (w.heap.size + 1) (blN s1.1) s1.2.1 s1.2.2 w9 from h9)); (have HB9 := Lib.hid (below_grown HI.out.bel HI.out.bel.size hg9 (Nat.le_succ _))); clear h9 hg9))
        have hl := H9.out.load (blN_len _)
        exact bodyPost_ret (v := .agg (rfA (blN s1.1) s1.2.1 s1.2.2)) (by simp [results, Try.results41, asAddr]; exact hl) rfl ⟨by rw [HE.out], HB9.out⟩
end Go.Proofs.Ythgdbdhonhkkpaa.St
