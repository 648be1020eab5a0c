/-
  sha: the document's under.
-/
import Derived.Test.YtagfplcafeblbaaHr
namespace Go.Proofs.Ytagfplcafeblbaa.H
open Go.RowKit Go.Proofs.Ytagfplcafeblbaa.L Go.Proofs.Ytagfplcafeblbaa.N Go.Proofs.YtagfplcafeblbaaW.PrintWords

/-- a row of zeros with one number in it -/
def wantN (n j y : Nat) : List Nat := (List.replicate n 0).set j y
theorem wantN_len (n j y : Nat) : (wantN n j y).length = n := by unfold wantN; rw [List.length_set, List.length_replicate]
theorem wantN_get {n j y k : Nat} (hj : j < n) : (wantN n j y).getD k 0 = if k = j then y else 0 := by
  unfold wantN
  rw [getD_set', List.length_replicate]
  by_cases h : k = j
  · subst h; simp [hj]
  · rw [if_neg h, if_neg (by omega), List.getD_eq_getElem?_getD, List.getElem?_replicate]
    split <;> rfl
theorem wantN_lt {n j y m : Nat} (h0 : 0 < m) (hy : y < m) : ∀ x ∈ wantN n j y, x < m := by
  intro x hx
  unfold wantN at hx
  rcases List.mem_or_eq_of_mem_set hx with h | h
  · rw [List.eq_of_mem_replicate h]; exact h0
  · rw [h]; exact hy
theorem wantN_set (n j y z : Nat) : (wantN n j y).set j z = wantN n j z := by unfold wantN; rw [List.set_set]
theorem wantN_other {n j y k : Nat} (hj : j < n) (h : k ≠ j) : (wantN n j y).set k 0 = wantN n j y := by
  apply List.ext_getElem?
  intro i
  rw [List.getElem?_set]
  by_cases e : k = i
  · subst e
    rw [if_pos rfl]
    have h1 := wantN_get (y := y) (k := k) hj
    rw [if_neg h, List.getD_eq_getElem?_getD] at h1
    by_cases hk : k < (wantN n j y).length
    · rw [if_pos hk, List.getElem?_eq_getElem hk] at *
      simp at h1
      rw [h1]
    · rw [if_neg hk, List.getElem?_eq_none (by omega)]
  · rw [if_neg e]
theorem wantN_val {n j y : Nat} (hj : j < n) : val (wantN n j y) = y * 4096 ^ j := by
  have h := val_set (List.replicate n 0) j y (by rw [List.length_replicate]; exact hj)
  have h0 : (List.replicate n 0).getD j 0 = 0 := by
    rw [List.getD_eq_getElem?_getD, List.getElem?_replicate]
    split <;> rfl
  rw [h0, Nat.zero_add, val_zero, Nat.zero_add] at h
  exact h
theorem val4 (x : Nat) : val [x % 4096, x / 4096 % 4096, x / 16777216 % 4096, x / 68719476736] = x := by
  simp only [val]
  omega
set_option maxRecDepth 100000 in
set_option maxHeartbeats 6400000 in
theorem under_two (x p : Nat) (w : World) (hx : x < 137438953472) (hp : p ≤ 1000) :
    Calls Try.prog 65 #[.int .u64 (x : Int), .int .u64 (p : Int), .bool false] w fun e w' => e = .returned (.bool (undN false p x)) ∧ Below w.heap.size w w' := by
  obtain ⟨r, hr⟩ : ∃ r, undN false p x = r := ⟨_, rfl⟩
  have HR0 := Lib.hid (show decide (x * x ≤ p * 2 ^ 64) = r from hr)
  have hX : val [x % 4096, x / 4096 % 4096, x / 16777216 % 4096, x / 68719476736] = x := val4 x
  obtain ⟨d0, h0⟩ : ∃ d, x % 4096 = d := ⟨_, rfl⟩
  obtain ⟨x1, hx1⟩ : ∃ d, x / 4096 = d := ⟨_, rfl⟩
  obtain ⟨d1, h1⟩ : ∃ d, x1 % 4096 = d := ⟨_, rfl⟩
  obtain ⟨x2, hx2⟩ : ∃ d, x / 16777216 = d := ⟨_, rfl⟩
  obtain ⟨d2, h2⟩ : ∃ d, x2 % 4096 = d := ⟨_, rfl⟩
  obtain ⟨d3, h3⟩ : ∃ d, x / 68719476736 = d := ⟨_, rfl⟩
  rw [h0, hx1, h1, hx2, h2, h3] at hX
  have q0 : (x : Int) % 4096 = (d0 : Int) := by omega
  have q1 : (x : Int) / 4096 = (x1 : Int) := by omega
  have q2 : (x1 : Int) % 4096 = (d1 : Int) := by omega
  have q3 : (x : Int) / 16777216 = (x2 : Int) := by omega
  have q4 : (x2 : Int) % 4096 = (d2 : Int) := by omega
  have q5 : (x : Int) / 68719476736 = (d3 : Int) := by omega
  have z0 : (x : Int) < 137438953472 := by omega
  have z1 : (0 : Int) ≤ (x : Int) := by omega
  have z2 : (p : Int) ≤ 1000 := by omega
  have z3 : (0 : Int) ≤ (p : Int) := by omega
  have z4 : (0 : Int) ≤ (x1 : Int) := by omega
  have z5 : (0 : Int) ≤ (x2 : Int) := by omega
  have hD8 : ∀ y ∈ [d0, d1, d2, d3], y < 4096 := by
    intro y hy
    simp only [List.mem_cons, List.not_mem_nil, or_false] at hy
    rcases hy with rfl | rfl | rfl | rfl <;> omega
  have HX := Lib.hid hX
  have HD8 := Lib.hid hD8
  have HP := Lib.hid hp
  have HXl := Lib.hid hx
  rw [hr]
  clear hr h0 hx1 h1 hx2 h2 h3 hX hD8 hp hx
  have hmk := make_u64 10 10 rfl (by decide)
  go_enter Try.func65, Try.ntmps65
  go_wp2_with fail
  refine calls_at fun W1 hW1 => ?_
  have HA1 := Lib.hid (show AB .u64 84 w.heap.size [d0, d1, d2, d3] W1 from by rw [hW1]; exact AB.mk w .u64 84 _)
  have HB1 := Lib.hid (show Below w.heap.size w W1 from by rw [hW1]; exact (Below.refl _ _).alloc (Nat.le_refl _) _)
  have hrow := rowK HA1.out (show 4 ≤ maxLen by decide)
  have hq := mul_any [d0, d1, d2, d3] [d0, d1, d2, d3] 4 4 (some ⟨w.heap.size, 0, none⟩) (some ⟨w.heap.size, 0, none⟩) 4 4 W1 rfl rfl hrow hrow HD8.out HD8.out (by decide) (by decide)
  rw [HX.out] at hq
  have HQ := Lib.hid hq
  have HS1 := Lib.hid (show w.heap.size < W1.heap.size from HA1.out.lt)
  clear hW1 hrow hq q0 q1 q2 q3 q4 q5 z4 z5
  refine HQ.out.mono ?_
  rintro e w2 ⟨v2, rfl, hr2, hb2⟩
  have HB2 := Lib.hid (HB1.out.trans (hb2.mono HB1.out.size))
  have HR2 := Lib.hid hr2
  have HS2 := Lib.hid hb2.size
  have HA2 := Lib.hid (HA1.out.below HA1.out.lt hb2)
  obtain ⟨A2, c2, hv2, hc2, hC2⟩ := Kd.R_reads hr2
  rw [nat_length, digs_length] at hv2 hC2
  subst hv2
  have HC2 := Lib.hid hC2
  have HX2 := Lib.hid (show x * x < 4096 ^ 8 from Nat.lt_of_lt_of_le (Nat.mul_lt_mul'' HXl.out HXl.out) (by decide))
  have HN2 := Lib.hid (digs_length 8 (x * x))
  clear hr2 hb2 hc2 hC2 HQ
  have HRn := Lib.hid (Kd.R_lower HR2.out (Nat.le_of_lt HS1.out))
  clear HR2 HC2 HN2 HA2 HA1 HB1
  obtain ⟨M, hM⟩ : ∃ M, x * x = M := ⟨_, rfl⟩
  rw [hM] at HR0 HX2 HRn
  clear hM
  have HWs := Lib.hid (show w.heap.size ≤ w2.heap.size from Nat.le_trans (Nat.le_of_lt HS1.out) HS2.out)
  go_upto_region 8 with (fail)
  refine wp_at fun W3 hW3 => ?_
  obtain ⟨gw4, hgw4⟩ : ∃ g, w2.heap.size = g := ⟨_, rfl⟩
  have haw := show AB .u64 84 gw4 (List.replicate 10 0) W3 from by rw [hW3, ← hgw4]; exact AB.mk w2 .u64 84 (List.replicate 10 0)
  have hb3 := show Below w2.heap.size w2 W3 from by rw [hW3]; exact (Below.refl _ _).alloc (Nat.le_refl _) _
  have HAw3 := Lib.hid haw
  have HNt3 := Lib.hid hb3
  have HG4 := Lib.hid (show w.heap.size ≤ gw4 ∧ w2.heap.size ≤ gw4 from by have := HWs.out; omega)
  have k1 : W3.cell? ⟨gw4, 5, none⟩ = some (.int .u64 0) := haw.cell (i := 5) (by decide)
  have k2 : W3.frozen? ⟨gw4, 5, none⟩ = false := haw.fz 5
  try rw [hgw4]
  clear hW3 haw hb3 hmk hgw4
  go_wp2_with fail
  refine exit_at fun W4 hW4 => ?_
  have HAw := Lib.hid (show AB .u64 84 gw4 (wantN 10 5 p) W4 from by rw [hW4]; exact HAw3.out.set 5 p)
  have HNt := Lib.hid (show Below w2.heap.size w2 W4 from by rw [hW4]; exact HNt3.out.setCell HG4.out.2 _)
  have HB4 := Lib.hid (HB2.out.trans (HNt.out.mono HB2.out.size))
  clear hW4 k1 k2 HAw3 HNt3
  have HP2 := Lib.hid (show p * 2 ^ 0 = p from by rw [Nat.pow_zero, Nat.mul_one])
  have HAw0 := Lib.hid (show AB .u64 84 gw4 (wantN 10 5 (p * 2 ^ 0)) W4 from by rw [HP2.out]; exact HAw.out)
  clear HAw HP2
  go_loopg [11] 6 (fun g v11 w' => ∃ i : Nat, v11 = .int .i64 (i : Int) ∧ Hid (i ≤ 4 ∧ 4 < g + i) ∧ Hid (AB .u64 84 gw4 (wantN 10 5 (p * 2 ^ i)) w') ∧ Hid (Below w2.heap.size w2 w'))
  case atStart => exact ⟨0, rfl, Lib.hid ⟨by omega, by omega⟩, HAw0, HNt⟩
  case round =>
    obtain ⟨i, rfl, HJ, HAw, HNt⟩ := hrel
    clear HAw0
    cases gk with
    | zero => have := HJ.out; omega
    | succ k =>
      by_cases hlt : i < 4
      · have HJ' := Lib.hid (show i < 4 ∧ 4 < (k + 1) + i from ⟨hlt, HJ.out.2⟩)
        have y0 : (i : Int) < 4 := by omega
        have y1 : (0 : Int) ≤ (i : Int) := by omega
        have HY := Lib.hid (show p * 2 ^ i ≤ 8000 ∧ p * 2 ^ (i + 1) = 2 * (p * 2 ^ i) from by
          have h1 := HP.out
          have h2 : 2 ^ i ≤ 2 ^ 3 := Nat.pow_le_pow_right (by decide) (by omega)
          have h3 : p * 2 ^ i ≤ 1000 * 2 ^ 3 := Nat.mul_le_mul h1 h2
          exact ⟨h3, by rw [Nat.pow_succ, ← Nat.mul_assoc, Nat.mul_comm]⟩)
        obtain ⟨u, hu⟩ : ∃ u, p * 2 ^ i = u := ⟨_, rfl⟩
        rw [hu] at HAw HY
        have HY2 := Lib.hid HY.out.2
        have HAw1 := Lib.hid (show AB .u64 84 gw4 (wantN 10 5 (if 5 < 0 then 2 * u else u)) wr from HAw.out)
        clear hlt HJ hu HAw
        go_wp2_with fail
        go_loopg [12] 11 (fun g v12 w' => ∃ m : Nat, v12 = .int .i64 (m : Int) ∧ Hid (m ≤ 10 ∧ 10 < g + m) ∧ Hid (AB .u64 84 gw4 (wantN 10 5 (if 5 < m then 2 * u else u)) w') ∧ Hid (Below w2.heap.size w2 w'))
        case atStart => exact ⟨0, rfl, Lib.hid ⟨by omega, by omega⟩, HAw1, HNt⟩
        case round =>
          obtain ⟨m, rfl, HQ, HA, HNt⟩ := hrel
          clear HAw1
          cases gk with
          | zero => have := HQ.out; omega
          | succ k2 =>
            by_cases hlt : m < 10
            · have HQ' := Lib.hid (show m < 10 ∧ 10 < (k2 + 1) + m from ⟨hlt, HQ.out.2⟩)
              have x0 : (m : Int) < 10 := by omega
              have x1 : (0 : Int) ≤ (m : Int) := by omega
              have k1 := HA.out.cell (i := m) (by rw [wantN_len]; exact hlt)
              have k2' := HA.out.fz m
              rw [wantN_get (by decide)] at k1
              by_cases h5 : m = 5
              · rw [if_pos h5, if_neg (by omega)] at k1
                have HA2 := Lib.hid (show AB .u64 84 gw4 (wantN 10 5 u) wr from by have := HA.out; rwa [if_neg (by omega)] at this)
                have x2 : (0 : Int) ≤ (u : Int) := by omega
                have x3 : (u : Int) ≤ 8000 := by have := HY.out.1; omega
                obtain ⟨z, hzz⟩ : ∃ z, 2 * u = z := ⟨_, rfl⟩
                have e1 : 2 * (u : Int) = (z : Int) := by omega
                have e2 : IntKind.u64.wrap (2 * (u : Int)) = (z : Int) := by rw [e1]; exact wraps_u64 _ (by omega) (by omega)
                have HZz := Lib.hid hzz
                clear hzz
                have HM5 := Lib.hid h5
                clear h5 hlt HQ HA
                go_wp2_with fail
                clear k1 k2' e1 e2
                refine exit_at fun W5 hW5 => ?_
                have HA5 := Lib.hid (show AB .u64 84 gw4 (wantN 10 5 (if 5 < m + 1 then 2 * u else u)) W5 from by
                  rw [hW5, if_pos (by have := HM5.out; omega), ← wantN_set 10 5 u (2 * u), HZz.out]
                  have := HA2.out.set m z
                  rw [HM5.out] at this ⊢
                  exact this)
                have HN5 := Lib.hid (show Below w2.heap.size w2 W5 from by rw [hW5]; exact HNt.out.setCell HG4.out.2 _)
                clear hW5
                go_wp2_with fail
                go_roundg k2
                case measure => have := HQ'.out; omega
                case rel => exact ⟨m + 1, by go_num, Lib.hid (by have := HQ'.out; omega), HA5, HN5⟩
              · rw [if_neg h5] at k1
                have HM5 := Lib.hid h5
                clear h5 hlt HQ
                go_wp2_with fail
                clear k1 k2'
                refine exit_at fun W5 hW5 => ?_
                have HA5 := Lib.hid (show AB .u64 84 gw4 (wantN 10 5 (if 5 < m + 1 then 2 * u else u)) W5 from by
                  rw [hW5]
                  have := HA.out.set m 0
                  rw [wantN_other (by decide) HM5.out] at this
                  have e : (if 5 < m + 1 then 2 * u else u) = (if 5 < m then 2 * u else u) := by
                    have := HM5.out
                    by_cases h : 5 < m
                    · rw [if_pos h, if_pos (by omega)]
                    · rw [if_neg h, if_neg (by omega)]
                  rw [e]
                  exact this)
                have HN5 := Lib.hid (show Below w2.heap.size w2 W5 from by rw [hW5]; exact HNt.out.setCell HG4.out.2 _)
                clear hW5
                go_wp2_with fail
                go_roundg k2
                case measure => have := HQ'.out; omega
                case rel => exact ⟨m + 1, by go_num, Lib.hid (by have := HQ'.out; omega), HA5, HN5⟩
            · obtain rfl : m = 10 := by have := HQ.out; omega
              have HA5 := Lib.hid (show AB .u64 84 gw4 (wantN 10 5 (p * 2 ^ (i + 1))) wr from by rw [HY2.out]; have := HA.out; rwa [if_pos (by decide)] at this)
              clear hlt HQ HA
              go_wp2_with fail
              go_roundg k
              case measure => have := HJ'.out; omega
              case rel => exact ⟨i + 1, by go_num, Lib.hid (by have := HJ'.out; omega), HA5, HNt⟩
      · obtain rfl : i = 4 := by have := HJ.out; omega
        have hvw : val (wantN 10 5 (p * 2 ^ 4)) = p * 2 ^ 64 := by
          rw [wantN_val (by decide), Nat.mul_assoc]
        obtain ⟨T, hT⟩ : ∃ T, p * 2 ^ 64 = T := ⟨_, rfl⟩
        have hTl : T < 4096 ^ 10 := by
          rw [← hT]
          exact Nat.lt_of_le_of_lt (Nat.mul_le_mul_right _ HP.out) (by decide)
        have HTl := Lib.hid hTl
        rw [hT] at hvw
        have hrow := rowK HAw.out (by rw [wantN_len]; decide)
        rw [wantN_len] at hrow
        have hq := carried_any (wantN 10 5 (p * 2 ^ 4)) 10 (some ⟨gw4, 0, none⟩) 10 wr (wantN_len _ _ _) hrow (by decide) (wantN_lt (by decide) (Nat.lt_of_le_of_lt (Nat.mul_le_mul_right _ HP.out) (by decide))) (by rw [hvw]; exact hTl)
        rw [hvw] at hq
        have HQ := Lib.hid hq
        have HR1 := Lib.hid (show decide (M ≤ T) = r from by rw [← hT]; exact HR0.out)
        have HRn2 := Lib.hid (show (Kd.int .u64).R 84 wr w.heap.size (fun _ => True) (.slice A2 8 c2) (nat (digs 8 M)) from Kd.R_below HRn.out HNt.out)
        have HRn1 := Lib.hid (show (Kd.int .u64).R 84 w2 w.heap.size (fun _ => True) (.slice A2 8 c2) (nat (digs 8 M)) from HRn.out)
        have HBr := Lib.hid (HB2.out.trans (HNt.out.mono HB2.out.size))
        have HNs := Lib.hid HNt.out.size
        clear hlt HJ hT hvw hTl hrow hq HRn HAw HR0 HNt
        go_wp2_with fail
        refine HQ.out.mono ?_
        rintro e w6 ⟨v6, rfl, hr6, hb6⟩
        obtain ⟨A6, c6, hv6, hc6, hC6⟩ := Kd.R_reads hr6
        rw [nat_length, digs_length] at hv6
        subst hv6
        have HR6 := Lib.hid hr6
        have HAp := Lib.hid (Ap_older HRn1.out hr6 HNs.out)
        have HRn6 := Lib.hid (Kd.R_below HRn2.out hb6)
        have HB6 := Lib.hid (HBr.out.trans (hb6.mono HBr.out.size))
        obtain ⟨B6, hB6⟩ : ∃ B, wr.heap.size = B := ⟨_, rfl⟩
        rw [hB6] at HR6
        clear hr6 hb6 hc6 hC6 HQ HRn2 HBr HRn1 hB6
        go_wp2_with fail
        go_loopg [8] 3 (fun g v8 w' => ∃ (q : Nat) (A : Option Addr) (c : Nat), v8 = .slice A q c ∧ Hid (8 ≤ q ∧ q ≤ 10 ∧ 10 < g + q) ∧ Hid ((Kd.int .u64).R 84 w' w.heap.size (fun _ => True) (.slice A q c) (nat (digs q M))) ∧ Hid ((Kd.int .u64).R 84 w' B6 (fun _ => True) (.slice A6 10 c6) (nat (digs 10 T))) ∧ Hid (Q.Ap (.slice A q c) (.slice A6 10 c6)) ∧ Hid (Below w.heap.size w w'))
        case atStart => exact ⟨8, A2, c2, rfl, Lib.hid ⟨by omega, by omega, by omega⟩, HRn6, HR6, HAp, HB6⟩
        case round =>
          obtain ⟨q, A, c, rfl, HQ, HN, HW, HAp2, HB⟩ := hrel
          clear HRn6 HR6 HAp HB6
          cases gk with
          | zero => have := HQ.out; omega
          | succ k3 =>
            by_cases hlt : q < 10
            · have HQ' := Lib.hid (show 8 ≤ q ∧ q < 10 ∧ 10 < (k3 + 1) + q from ⟨HQ.out.1, hlt, HQ.out.2.2⟩)
              have HZ := Lib.hid (show nat (digs (q + 1) M) = nat (digs q M) ++ [0] from by
                rw [digs_zero (Nat.lt_of_lt_of_le HX2.out (Nat.pow_le_pow_right (by decide) HQ.out.1)), nat_app]
                rfl)
              have HLn := Lib.hid (show (nat (digs q M)).length = q from by rw [nat_length, digs_length])
              have x0 : (q : Int) < 10 := by omega
              have x1 : decide (q < 10) = true := decide_eq_true hlt
              have x2 : decide ((q : Int) < 10) = true := decide_eq_true x0
              clear hlt HQ
              go_wp2_with (at_builtin; refine app1a (w0 := w) .u64 w.heap.size (.tmp 69) (.tmp 70) 116 84 8 rfl rfl Try.underlying116 info_u64 (by decide) (.slice A q c) (nat (digs q M)) 0 rfl rfl HN.out HB.out HB.out.size (by have := HLn.out; have := HQ'.out; omega) ?_; intro v8 w8 hr8 hb8 hg8 hat8; (have HR8 := Lib.hid hr8); (have HB8 := Lib.hid hb8); (have HG8 := Lib.hid hg8); (have HAt8 := Lib.hid hat8); clear hr8 hb8 hg8 hat8)
              have hr8 := HR8.out
              rw [← HZ.out] at hr8
              have hap8 := HAp2.out.step (W := wr) HAt8.out (Kd.R_lt HW.out)
              have hw8 := Q.R_apart HW.out HAp2.out.symm HG8.out
              obtain ⟨A8, c8, hv8, hc8, hC8⟩ := Kd.R_reads hr8
              rw [nat_length, digs_length] at hv8
              subst hv8
              have HR9 := Lib.hid hr8
              have HAp9 := Lib.hid hap8
              have HW9 := Lib.hid hw8
              clear hr8 hap8 hw8 hc8 hC8 HR8 HG8 HAt8
              go_roundg k3
              case measure => have := HQ'.out; omega
              case rel => exact ⟨q + 1, A8, c8, rfl, Lib.hid (by have := HQ'.out; omega), HR9, HW9, HAp9, HB8⟩
            · obtain rfl : q = 10 := by have := HQ.out; omega
              have HCn := Lib.hid (show (Kd.int .u64).C wr A (digs 10 M).length (nat (digs 10 M)) from by have := (Kd.R_reads' HN.out).2.2; rwa [nat_length] at this)
              have HCw := Lib.hid (show (Kd.int .u64).C wr A6 (digs 10 T).length (nat (digs 10 T)) from by have := (Kd.R_reads' HW.out).2.2; rwa [nat_length] at this)
              have HCm := Lib.hid (Cmp.start (N := 10) (a := M) (b := T) (Nat.lt_of_lt_of_le HX2.out (Nat.pow_le_pow_right (by decide) (by decide))) HTl.out)
              clear hlt HQ HN HW HAp2
              go_wp2_with fail
              go_loopg [13] 11 (fun g v13 w' => ∃ (i : Nat) (I : Int), v13 = .int .i64 I ∧ Hid (I = (i : Int) - 1) ∧ Hid (i ≤ 10 ∧ i < g) ∧ Hid (Cmp 10 M T i) ∧ Hid ((Kd.int .u64).C w' A (digs 10 M).length (nat (digs 10 M))) ∧ Hid ((Kd.int .u64).C w' A6 (digs 10 T).length (nat (digs 10 T))) ∧ Hid (Below w.heap.size w w'))
              case atStart => exact ⟨10, _, rfl, Lib.hid (by decide), Lib.hid ⟨by omega, by omega⟩, HCm, HCn, HCw, HB⟩
              case round =>
                obtain ⟨i, I, rfl, HI, HQ, HCm, HCn, HCw, HB⟩ := hrel
                cases gk with
                | zero => have := HQ.out; omega
                | succ k4 =>
                  cases i with
                  | zero =>
                    obtain rfl : I = -1 := by have := HI.out; omega
                    have HRt := Lib.hid (show r = true from by rw [← HR1.out]; exact HCm.out.stop)
                    clear HCm HQ HI
                    go_wp2_with fail
                    go_ret
                    exact ⟨by rw [HRt.out]; rfl, HB.out⟩
                  | succ j =>
                    obtain rfl : I = (j : Int) := by have := HI.out; omega
                    have hj : j < 10 := by have := HQ.out; omega
                    have hz : ∀ X, 0 < (digs 10 X).length := fun X => by rw [digs_length]; decide
                    obtain ⟨bn, on, rfl, hbn, hcn⟩ := B_at HCn.out (hz _)
                    obtain ⟨bw, ow, rfl, hbw, hcw⟩ := B_at HCw.out (hz _)
                    have p1 := hcn j (by rw [digs_length]; exact hj)
                    have p2 := hcw j (by rw [digs_length]; exact hj)
                    rw [digs_get _ _ _ hj] at p1 p2
                    have HSame := Lib.hid (fun h => HCm.out.same h)
                    have HLess := Lib.hid (fun h => HCm.out.less h)
                    obtain ⟨da, hda⟩ : ∃ d, M / 4096 ^ j % 4096 = d := ⟨_, rfl⟩
                    obtain ⟨db, hdb⟩ : ∃ d, T / 4096 ^ j % 4096 = d := ⟨_, rfl⟩
                    rw [hda] at p1 HSame HLess
                    rw [hdb] at p2 HSame HLess
                    have x0 : (0 : Int) ≤ (j : Int) := by omega
                    have x1 : (j : Int) < 10 := by omega
                    have HQ' := Lib.hid (show j + 1 ≤ 10 ∧ j + 1 < k4 + 1 from HQ.out)
                    by_cases he : da = db
                    · subst he
                      have HCm2 := Lib.hid (HSame.out rfl)
                      have t1 : ((da : Int) != (da : Int)) = false := by rw [bne_self_eq_false]
                      have t2 : (da != da) = false := by rw [bne_self_eq_false]
                      clear hda hdb hbn hbw hcn hcw hj hz HQ HCm HSame HLess HI
                      go_wp2_with fail
                      go_roundg k4
                      case measure => have := HQ'.out; omega
                      case rel => exact ⟨j, _, rfl, Lib.hid (by omega), Lib.hid (by have := HQ'.out; omega), HCm2, HCn, HCw, HB⟩
                    · have t1 : ((da : Int) != (db : Int)) = true := by rw [bne_iff_ne]; omega
                      have t2 : (da != db) = true := by rw [bne_iff_ne]; exact he
                      have hrr := HLess.out he
                      rw [HR1.out] at hrr
                      have HRr := Lib.hid hrr
                      clear hda hdb hbn hbw hcn hcw hj hz HQ HCm HSame HLess HI hrr
                      by_cases hl : da < db
                      · have HRt := Lib.hid (show r = true from by rw [← HRr.out]; exact decide_eq_true hl)
                        have t3 : (da : Int) < (db : Int) := by omega
                        have t4 : decide ((da : Int) < (db : Int)) = true := decide_eq_true t3
                        have t5 : decide (da < db) = true := decide_eq_true hl
                        clear hl he
                        go_wp2_with fail
                        go_ret
                        exact ⟨by rw [HRt.out]; rfl, HB.out⟩
                      · have HRt := Lib.hid (show r = false from by rw [← HRr.out]; exact decide_eq_false hl)
                        have t3 : ¬ (da : Int) < (db : Int) := by omega
                        have t4 : decide ((da : Int) < (db : Int)) = false := decide_eq_false t3
                        have t5 : decide (da < db) = false := decide_eq_false hl
                        clear hl he
                        go_wp2_with fail
                        go_ret
                        exact ⟨by rw [HRt.out]; rfl, HB.out⟩
set_option maxRecDepth 100000 in
set_option maxHeartbeats 6400000 in
theorem under_three (x p : Nat) (w : World) (hx : x < 137438953472) (hp : p ≤ 1000) :
    Calls Try.prog 65 #[.int .u64 (x : Int), .int .u64 (p : Int), .bool true] w fun e w' => e = .returned (.bool (undN true p x)) ∧ Below w.heap.size w w' := by
  obtain ⟨r, hr⟩ : ∃ r, undN true p x = r := ⟨_, rfl⟩
  have HR0 := Lib.hid (show decide (x * x * x ≤ p * 2 ^ 96) = r from hr)
  have hX : val [x % 4096, x / 4096 % 4096, x / 16777216 % 4096, x / 68719476736] = x := val4 x
  obtain ⟨d0, h0⟩ : ∃ d, x % 4096 = d := ⟨_, rfl⟩
  obtain ⟨x1, hx1⟩ : ∃ d, x / 4096 = d := ⟨_, rfl⟩
  obtain ⟨d1, h1⟩ : ∃ d, x1 % 4096 = d := ⟨_, rfl⟩
  obtain ⟨x2, hx2⟩ : ∃ d, x / 16777216 = d := ⟨_, rfl⟩
  obtain ⟨d2, h2⟩ : ∃ d, x2 % 4096 = d := ⟨_, rfl⟩
  obtain ⟨d3, h3⟩ : ∃ d, x / 68719476736 = d := ⟨_, rfl⟩
  rw [h0, hx1, h1, hx2, h2, h3] at hX
  have q0 : (x : Int) % 4096 = (d0 : Int) := by omega
  have q1 : (x : Int) / 4096 = (x1 : Int) := by omega
  have q2 : (x1 : Int) % 4096 = (d1 : Int) := by omega
  have q3 : (x : Int) / 16777216 = (x2 : Int) := by omega
  have q4 : (x2 : Int) % 4096 = (d2 : Int) := by omega
  have q5 : (x : Int) / 68719476736 = (d3 : Int) := by omega
  have z0 : (x : Int) < 137438953472 := by omega
  have z1 : (0 : Int) ≤ (x : Int) := by omega
  have z2 : (p : Int) ≤ 1000 := by omega
  have z3 : (0 : Int) ≤ (p : Int) := by omega
  have z4 : (0 : Int) ≤ (x1 : Int) := by omega
  have z5 : (0 : Int) ≤ (x2 : Int) := by omega
  have hD8 : ∀ y ∈ [d0, d1, d2, d3], y < 4096 := by
    intro y hy
    simp only [List.mem_cons, List.not_mem_nil, or_false] at hy
    rcases hy with rfl | rfl | rfl | rfl <;> omega
  have HX := Lib.hid hX
  have HD8 := Lib.hid hD8
  have HP := Lib.hid hp
  have HXl := Lib.hid hx
  rw [hr]
  clear hr h0 hx1 h1 hx2 h2 h3 hX hD8 hp hx
  have hmk := make_u64 14 14 rfl (by decide)
  go_enter Try.func65, Try.ntmps65
  go_wp2_with fail
  refine calls_at fun W1 hW1 => ?_
  have HA1 := Lib.hid (show AB .u64 84 w.heap.size [d0, d1, d2, d3] W1 from by rw [hW1]; exact AB.mk w .u64 84 _)
  have HB1 := Lib.hid (show Below w.heap.size w W1 from by rw [hW1]; exact (Below.refl _ _).alloc (Nat.le_refl _) _)
  have hrow := rowK HA1.out (show 4 ≤ maxLen by decide)
  have hq := mul_any [d0, d1, d2, d3] [d0, d1, d2, d3] 4 4 (some ⟨w.heap.size, 0, none⟩) (some ⟨w.heap.size, 0, none⟩) 4 4 W1 rfl rfl hrow hrow HD8.out HD8.out (by decide) (by decide)
  rw [HX.out] at hq
  have HQ := Lib.hid hq
  have HS1 := Lib.hid (show w.heap.size < W1.heap.size from HA1.out.lt)
  clear hW1 hrow hq q0 q1 q2 q3 q4 q5 z4 z5
  refine HQ.out.mono ?_
  rintro e w2 ⟨v2, rfl, hr2, hb2⟩
  have HB2 := Lib.hid (HB1.out.trans (hb2.mono HB1.out.size))
  have HR2 := Lib.hid hr2
  have HS2 := Lib.hid hb2.size
  have HA2 := Lib.hid (HA1.out.below HA1.out.lt hb2)
  obtain ⟨A2, c2, hv2, hc2, hC2⟩ := Kd.R_reads hr2
  rw [nat_length, digs_length] at hv2 hC2
  subst hv2
  have HC2 := Lib.hid hC2
  have HX2 := Lib.hid (show x * x < 4096 ^ 8 from Nat.lt_of_lt_of_le (Nat.mul_lt_mul'' HXl.out HXl.out) (by decide))
  have HN2 := Lib.hid (digs_length 8 (x * x))
  clear hr2 hb2 hc2 hC2 HQ
  have hrow := rowK HA2.out (show 4 ≤ maxLen by decide)
  have hq := mul_any (digs 8 (x * x)) [d0, d1, d2, d3] 8 4 A2 (some ⟨w.heap.size, 0, none⟩) c2 4 w2 HN2.out rfl HC2.out hrow (digs_lt _ _) HD8.out (by decide) (by decide)
  rw [HX.out, val_digs _ _ HX2.out] at hq
  have HQ := Lib.hid hq
  clear hq hrow
  go_wp2_with fail
  refine HQ.out.mono ?_
  rintro e w3 ⟨v3, rfl, hr3, hb3⟩
  have HB3 := Lib.hid (HB2.out.trans (hb3.mono HB2.out.size))
  have HR3 := Lib.hid hr3
  have HS3 := Lib.hid (Nat.le_trans HS2.out hb3.size)
  obtain ⟨A3, c3, hv3, hc3, hC3⟩ := Kd.R_reads hr3
  rw [nat_length, digs_length] at hv3 hC3
  subst hv3
  have HX3 := Lib.hid (show x * x * x < 4096 ^ 12 from Nat.lt_of_lt_of_le (Nat.mul_lt_mul'' (Nat.mul_lt_mul'' HXl.out HXl.out) HXl.out) (by decide))
  have HRn := Lib.hid (Kd.R_lower HR3.out (Nat.le_trans (Nat.le_of_lt HS1.out) HS2.out))
  clear hr3 hb3 hc3 hC3 HQ HR2 HR3 HC2 HX2 HN2 HA2 HA1 HB1 HB2 HS2
  obtain ⟨M, hM⟩ : ∃ M, x * x * x = M := ⟨_, rfl⟩
  rw [hM] at HR0 HX3 HRn
  clear hM
  have HWs := Lib.hid (show w.heap.size ≤ w3.heap.size from Nat.le_trans (Nat.le_of_lt HS1.out) HS3.out)
  go_upto_region 8 with (fail)
  refine wp_at fun W3 hW3 => ?_
  obtain ⟨gw4, hgw4⟩ : ∃ g, w3.heap.size = g := ⟨_, rfl⟩
  have haw := show AB .u64 84 gw4 (List.replicate 14 0) W3 from by rw [hW3, ← hgw4]; exact AB.mk w3 .u64 84 (List.replicate 14 0)
  have hb3 := show Below w3.heap.size w3 W3 from by rw [hW3]; exact (Below.refl _ _).alloc (Nat.le_refl _) _
  have HAw3 := Lib.hid haw
  have HNt3 := Lib.hid hb3
  have HG4 := Lib.hid (show w.heap.size ≤ gw4 ∧ w3.heap.size ≤ gw4 from by have := HWs.out; omega)
  have k1 : W3.cell? ⟨gw4, 8, none⟩ = some (.int .u64 0) := haw.cell (i := 8) (by decide)
  have k2 : W3.frozen? ⟨gw4, 8, none⟩ = false := haw.fz 8
  try rw [hgw4]
  clear hW3 haw hb3 hmk hgw4
  go_wp2_with fail
  refine exit_at fun W4 hW4 => ?_
  have HAw := Lib.hid (show AB .u64 84 gw4 (wantN 14 8 p) W4 from by rw [hW4]; exact HAw3.out.set 8 p)
  have HNt := Lib.hid (show Below w3.heap.size w3 W4 from by rw [hW4]; exact HNt3.out.setCell HG4.out.2 _)
  have HB4 := Lib.hid (HB3.out.trans (HNt.out.mono HB3.out.size))
  clear hW4 k1 k2 HAw3 HNt3
  have HP2 := Lib.hid (show p * 2 ^ 0 = p from by rw [Nat.pow_zero, Nat.mul_one])
  have HAw0 := Lib.hid (show AB .u64 84 gw4 (wantN 14 8 (p * 2 ^ 0)) W4 from by rw [HP2.out]; exact HAw.out)
  clear HAw HP2
  go_loopg [11] 2 (fun g v11 w' => ∃ i : Nat, v11 = .int .i64 (i : Int) ∧ Hid (i ≤ 0 ∧ 0 < g + i) ∧ Hid (AB .u64 84 gw4 (wantN 14 8 (p * 2 ^ i)) w') ∧ Hid (Below w3.heap.size w3 w'))
  case atStart => exact ⟨0, rfl, Lib.hid ⟨by omega, by omega⟩, HAw0, HNt⟩
  case round =>
    obtain ⟨i, rfl, HJ, HAw, HNt⟩ := hrel
    clear HAw0
    cases gk with
    | zero => have := HJ.out; omega
    | succ k =>
      by_cases hlt : i < 0
      · omega
      · obtain rfl : i = 0 := by have := HJ.out; omega
        have hvw : val (wantN 14 8 (p * 2 ^ 0)) = p * 2 ^ 96 := by
          rw [wantN_val (by decide), Nat.mul_assoc]
        obtain ⟨T, hT⟩ : ∃ T, p * 2 ^ 96 = T := ⟨_, rfl⟩
        have hTl : T < 4096 ^ 14 := by
          rw [← hT]
          exact Nat.lt_of_le_of_lt (Nat.mul_le_mul_right _ HP.out) (by decide)
        have HTl := Lib.hid hTl
        rw [hT] at hvw
        have hrow := rowK HAw.out (by rw [wantN_len]; decide)
        rw [wantN_len] at hrow
        have hq := carried_any (wantN 14 8 (p * 2 ^ 0)) 14 (some ⟨gw4, 0, none⟩) 14 wr (wantN_len _ _ _) hrow (by decide) (wantN_lt (by decide) (Nat.lt_of_le_of_lt (Nat.mul_le_mul_right _ HP.out) (by decide))) (by rw [hvw]; exact hTl)
        rw [hvw] at hq
        have HQ := Lib.hid hq
        have HR1 := Lib.hid (show decide (M ≤ T) = r from by rw [← hT]; exact HR0.out)
        have HRn2 := Lib.hid (show (Kd.int .u64).R 84 wr w.heap.size (fun _ => True) (.slice A3 12 c3) (nat (digs 12 M)) from Kd.R_below HRn.out HNt.out)
        have HRn1 := Lib.hid (show (Kd.int .u64).R 84 w3 w.heap.size (fun _ => True) (.slice A3 12 c3) (nat (digs 12 M)) from HRn.out)
        have HBr := Lib.hid (HB3.out.trans (HNt.out.mono HB3.out.size))
        have HNs := Lib.hid HNt.out.size
        clear hlt HJ hT hvw hTl hrow hq HRn HAw HR0 HNt
        go_wp2_with fail
        refine HQ.out.mono ?_
        rintro e w6 ⟨v6, rfl, hr6, hb6⟩
        obtain ⟨A6, c6, hv6, hc6, hC6⟩ := Kd.R_reads hr6
        rw [nat_length, digs_length] at hv6
        subst hv6
        have HR6 := Lib.hid hr6
        have HAp := Lib.hid (Ap_older HRn1.out hr6 HNs.out)
        have HRn6 := Lib.hid (Kd.R_below HRn2.out hb6)
        have HB6 := Lib.hid (HBr.out.trans (hb6.mono HBr.out.size))
        obtain ⟨B6, hB6⟩ : ∃ B, wr.heap.size = B := ⟨_, rfl⟩
        rw [hB6] at HR6
        clear hr6 hb6 hc6 hC6 HQ HRn2 HBr HRn1 hB6
        go_wp2_with fail
        go_loopg [8] 3 (fun g v8 w' => ∃ (q : Nat) (A : Option Addr) (c : Nat), v8 = .slice A q c ∧ Hid (12 ≤ q ∧ q ≤ 14 ∧ 14 < g + q) ∧ Hid ((Kd.int .u64).R 84 w' w.heap.size (fun _ => True) (.slice A q c) (nat (digs q M))) ∧ Hid ((Kd.int .u64).R 84 w' B6 (fun _ => True) (.slice A6 14 c6) (nat (digs 14 T))) ∧ Hid (Q.Ap (.slice A q c) (.slice A6 14 c6)) ∧ Hid (Below w.heap.size w w'))
        case atStart => exact ⟨12, A3, c3, rfl, Lib.hid ⟨by omega, by omega, by omega⟩, HRn6, HR6, HAp, HB6⟩
        case round =>
          obtain ⟨q, A, c, rfl, HQ, HN, HW, HAp2, HB⟩ := hrel
          clear HRn6 HR6 HAp HB6
          cases gk with
          | zero => have := HQ.out; omega
          | succ k3 =>
            by_cases hlt : q < 14
            · have HQ' := Lib.hid (show 12 ≤ q ∧ q < 14 ∧ 14 < (k3 + 1) + q from ⟨HQ.out.1, hlt, HQ.out.2.2⟩)
              have HZ := Lib.hid (show nat (digs (q + 1) M) = nat (digs q M) ++ [0] from by
                rw [digs_zero (Nat.lt_of_lt_of_le HX3.out (Nat.pow_le_pow_right (by decide) HQ.out.1)), nat_app]
                rfl)
              have HLn := Lib.hid (show (nat (digs q M)).length = q from by rw [nat_length, digs_length])
              have x0 : (q : Int) < 14 := by omega
              have x1 : decide (q < 14) = true := decide_eq_true hlt
              have x2 : decide ((q : Int) < 14) = true := decide_eq_true x0
              clear hlt HQ
              go_wp2_with (at_builtin; refine app1a (w0 := w) .u64 w.heap.size (.tmp 69) (.tmp 70) 116 84 8 rfl rfl Try.underlying116 info_u64 (by decide) (.slice A q c) (nat (digs q M)) 0 rfl rfl HN.out HB.out HB.out.size (by have := HLn.out; have := HQ'.out; omega) ?_; intro v8 w8 hr8 hb8 hg8 hat8; (have HR8 := Lib.hid hr8); (have HB8 := Lib.hid hb8); (have HG8 := Lib.hid hg8); (have HAt8 := Lib.hid hat8); clear hr8 hb8 hg8 hat8)
              have hr8 := HR8.out
              rw [← HZ.out] at hr8
              have hap8 := HAp2.out.step (W := wr) HAt8.out (Kd.R_lt HW.out)
              have hw8 := Q.R_apart HW.out HAp2.out.symm HG8.out
              obtain ⟨A8, c8, hv8, hc8, hC8⟩ := Kd.R_reads hr8
              rw [nat_length, digs_length] at hv8
              subst hv8
              have HR9 := Lib.hid hr8
              have HAp9 := Lib.hid hap8
              have HW9 := Lib.hid hw8
              clear hr8 hap8 hw8 hc8 hC8 HR8 HG8 HAt8
              go_roundg k3
              case measure => have := HQ'.out; omega
              case rel => exact ⟨q + 1, A8, c8, rfl, Lib.hid (by have := HQ'.out; omega), HR9, HW9, HAp9, HB8⟩
            · obtain rfl : q = 14 := by have := HQ.out; omega
              have HCn := Lib.hid (show (Kd.int .u64).C wr A (digs 14 M).length (nat (digs 14 M)) from by have := (Kd.R_reads' HN.out).2.2; rwa [nat_length] at this)
              have HCw := Lib.hid (show (Kd.int .u64).C wr A6 (digs 14 T).length (nat (digs 14 T)) from by have := (Kd.R_reads' HW.out).2.2; rwa [nat_length] at this)
              have HCm := Lib.hid (Cmp.start (N := 14) (a := M) (b := T) (Nat.lt_of_lt_of_le HX3.out (Nat.pow_le_pow_right (by decide) (by decide))) HTl.out)
              clear hlt HQ HN HW HAp2
              go_wp2_with fail
              go_loopg [13] 15 (fun g v13 w' => ∃ (i : Nat) (I : Int), v13 = .int .i64 I ∧ Hid (I = (i : Int) - 1) ∧ Hid (i ≤ 14 ∧ i < g) ∧ Hid (Cmp 14 M T i) ∧ Hid ((Kd.int .u64).C w' A (digs 14 M).length (nat (digs 14 M))) ∧ Hid ((Kd.int .u64).C w' A6 (digs 14 T).length (nat (digs 14 T))) ∧ Hid (Below w.heap.size w w'))
              case atStart => exact ⟨14, _, rfl, Lib.hid (by decide), Lib.hid ⟨by omega, by omega⟩, HCm, HCn, HCw, HB⟩
              case round =>
                obtain ⟨i, I, rfl, HI, HQ, HCm, HCn, HCw, HB⟩ := hrel
                cases gk with
                | zero => have := HQ.out; omega
                | succ k4 =>
                  cases i with
                  | zero =>
                    obtain rfl : I = -1 := by have := HI.out; omega
                    have HRt := Lib.hid (show r = true from by rw [← HR1.out]; exact HCm.out.stop)
                    clear HCm HQ HI
                    go_wp2_with fail
                    go_ret
                    exact ⟨by rw [HRt.out]; rfl, HB.out⟩
                  | succ j =>
                    obtain rfl : I = (j : Int) := by have := HI.out; omega
                    have hj : j < 14 := by have := HQ.out; omega
                    have hz : ∀ X, 0 < (digs 14 X).length := fun X => by rw [digs_length]; decide
                    obtain ⟨bn, on, rfl, hbn, hcn⟩ := B_at HCn.out (hz _)
                    obtain ⟨bw, ow, rfl, hbw, hcw⟩ := B_at HCw.out (hz _)
                    have p1 := hcn j (by rw [digs_length]; exact hj)
                    have p2 := hcw j (by rw [digs_length]; exact hj)
                    rw [digs_get _ _ _ hj] at p1 p2
                    have HSame := Lib.hid (fun h => HCm.out.same h)
                    have HLess := Lib.hid (fun h => HCm.out.less h)
                    obtain ⟨da, hda⟩ : ∃ d, M / 4096 ^ j % 4096 = d := ⟨_, rfl⟩
                    obtain ⟨db, hdb⟩ : ∃ d, T / 4096 ^ j % 4096 = d := ⟨_, rfl⟩
                    rw [hda] at p1 HSame HLess
                    rw [hdb] at p2 HSame HLess
                    have x0 : (0 : Int) ≤ (j : Int) := by omega
                    have x1 : (j : Int) < 14 := by omega
                    have HQ' := Lib.hid (show j + 1 ≤ 14 ∧ j + 1 < k4 + 1 from HQ.out)
                    by_cases he : da = db
                    · subst he
                      have HCm2 := Lib.hid (HSame.out rfl)
                      have t1 : ((da : Int) != (da : Int)) = false := by rw [bne_self_eq_false]
                      have t2 : (da != da) = false := by rw [bne_self_eq_false]
                      clear hda hdb hbn hbw hcn hcw hj hz HQ HCm HSame HLess HI
                      go_wp2_with fail
                      go_roundg k4
                      case measure => have := HQ'.out; omega
                      case rel => exact ⟨j, _, rfl, Lib.hid (by omega), Lib.hid (by have := HQ'.out; omega), HCm2, HCn, HCw, HB⟩
                    · have t1 : ((da : Int) != (db : Int)) = true := by rw [bne_iff_ne]; omega
                      have t2 : (da != db) = true := by rw [bne_iff_ne]; exact he
                      have hrr := HLess.out he
                      rw [HR1.out] at hrr
                      have HRr := Lib.hid hrr
                      clear hda hdb hbn hbw hcn hcw hj hz HQ HCm HSame HLess HI hrr
                      by_cases hl : da < db
                      · have HRt := Lib.hid (show r = true from by rw [← HRr.out]; exact decide_eq_true hl)
                        have t3 : (da : Int) < (db : Int) := by omega
                        have t4 : decide ((da : Int) < (db : Int)) = true := decide_eq_true t3
                        have t5 : decide (da < db) = true := decide_eq_true hl
                        clear hl he
                        go_wp2_with fail
                        go_ret
                        exact ⟨by rw [HRt.out]; rfl, HB.out⟩
                      · have HRt := Lib.hid (show r = false from by rw [← HRr.out]; exact decide_eq_false hl)
                        have t3 : ¬ (da : Int) < (db : Int) := by omega
                        have t4 : decide ((da : Int) < (db : Int)) = false := decide_eq_false t3
                        have t5 : decide (da < db) = false := decide_eq_false hl
                        clear hl he
                        go_wp2_with fail
                        go_ret
                        exact ⟨by rw [HRt.out]; rfl, HB.out⟩
end Go.Proofs.Ytagfplcafeblbaa.H
