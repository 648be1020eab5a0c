/-
  style: colour, Change.
-/
import Derived.Test.YthgdbdhonhkkpaaTc
namespace Go.Proofs.Ythgdbdhonhkkpaa.St
open Go.RowKit Go.Proofs.Ythgdbdhonhkkpaa.L Go.Proofs.Ythgdbdhonhkkpaa.V Go.Proofs.Ythgdbdhonhkkpaa.N Go.Proofs.YthgdbdhonhkkpaaW.PrintWords

theorem info_i : (Try.prog.info? 3).map (fun i => (i.zero, i.size, i.bytes)) = some (some (.int .i64 0), 1, 8) := by kernel_rfl
theorem C_lenI {k : IntKind} {W : World} {A : Option Addr} {n : Nat} {l : List Int} (h : (Kd.int k).C W A n l) : l.length = n := h.1
/-- s[lo:], of ints -/
theorem cutI (A : Option Addr) (n c : Nat) (lo : Int) (m : Nat) (h0 : lo = m) (h1 : m ≤ n) (hc : n ≤ c) :
    ∃ A' c', (∀ W : World, (Instr.slice 72 (.slice A n c) (some (.int .i64 lo)) none none).run Try.prog W = .ok (.slice A' (n - m) c') W) ∧ n - m ≤ c' ∧
      ∀ (W : World) (l : List Int), (Kd.int .i64).C W A n l → (Kd.int .i64).C W A' (n - m) (l.drop m) := by
  subst h0
  obtain ⟨i0, hi0, hz0⟩ := info_of info_i
  refine ⟨_, _, fun W => (cut_from 72 3 .i64 Try.underlying72 hi0 1 hz0 A n c m (by omega) (by omega) W).trans (by rw [Int.toNat_natCast]), by omega, ?_⟩
  intro W l hC
  have hl := C_lenI hC
  have h := Kd.C_mid (xs := l) (lo := m) (hi := n) (c := c) (by rw [hl]; exact hC) (by omega) (by omega) (by omega)
  have hlen : (l.drop m).length = n - m := by rw [List.length_drop]; omega
  rw [List.take_of_length_le (by omega), hlen] at h
  exact h
theorem and255 (x : Int) : bits .and .i64 x 255 = x % 256 := by
  have h1 : (BitVec.ofInt 64 x).toNat = (x % 18446744073709551616).toNat := by rw [BitVec.toNat_ofInt]; rfl
  have h2 : (BitVec.ofInt 64 255).toNat = 255 := rfl
  have h3 : ∀ n : Nat, n &&& 255 = n % 256 := fun n => Nat.and_two_pow_sub_one_eq_mod n 8
  show IntKind.i64.wrap (((BitVec.ofInt 64 x) &&& (BitVec.ofInt 64 255)).toNat : Int) = _
  rw [BitVec.toNat_and, h1, h2, h3]
  simp only [IntKind.wrap, IntKind.bits, IntKind.signed]
  simp
  omega
/-- a colour out of three numbers, number by number -/
def vN (l : List Int) : Nat → Nat
  | 0 => 0
  | i + 1 => 256 * vN l i + (l.getD (1 + i) 0 % 256).toNat
def okN (l : List Int) : Nat → Bool
  | 0 => true
  | i + 1 => okN l i && smallB (l.getD (1 + i) 0)
theorem vN_lt (l : List Int) : ∀ i, vN l i < 256 ^ i
  | 0 => by rw [vN]; decide
  | i + 1 => by
    have := vN_lt l i
    rw [vN, Nat.pow_succ]
    omega
theorem or32 (x y : Nat) (hx : x < 16777216) (hy : y < 256) : bits .or .u32 ((x : Int) * 256) (y : Int) = ((256 * x + y : Nat) : Int) := by
  have := bits_join .u32 32 (by decide) wraps_u32 8 ((x : Int) * 256) (y : Int) (by omega) (by omega) (by omega) (by omega) (by omega) (by omega)
  rw [this]
  omega
set_option maxRecDepth 100000 in
set_option maxHeartbeats 1600000 in
theorem colour_any (l : List Int) (A : Option Addr) (c : Nat) (w : World) (hC : (Kd.int .i64).C w A l.length l) (hc : l.length ≤ c) :
    Calls Try.prog 67 #[.slice A l.length c] w fun e w' => e = .returned (.tuple #[.int .u32 ((colR l).1 : Nat), .int .i64 ((colR l).2.1 : Nat), .bool (colR l).2.2]) ∧ Below w.heap.size w w' := by
  obtain ⟨hmx, hop⟩ := C_open hC
  by_cases hA : 2 ≤ l.length ∧ l.getD 0 0 = 5
  · obtain ⟨b, off, rfl, hb, hcell⟩ := hop.resolve_left (fun h => by rw [h] at hA; simp at hA)
    have HE := Lib.hid (show colR l = ((16777216 + l.getD 1 0 % 256).toNat, 2, smallB (l.getD 1 0)) from if_pos hA)
    have c0 : w.cell? ⟨b, off, none⟩ = _ := hcell 0 (by omega)
    have c1 := hcell 1 (by omega)
    rw [hA.2] at c0
    obtain ⟨x, hx⟩ : ∃ x, l.getD 1 0 = x := ⟨_, rfl⟩
    rw [hx] at c1 HE
    obtain ⟨r, hr⟩ : ∃ r : Nat, x % 256 = (r : Int) := ⟨(x % 256).toNat, by omega⟩
    have hr1 : r < 256 := by omega
    have hbit := and255 x
    rw [hr] at hbit HE
    have q0 := gw hb c0
    have q1 := gw hb c1
    have t1 : decide (2 ≤ (l.length : Int)) = true := decide_eq_true (by omega)
    have t1n : decide (2 ≤ l.length) = true := decide_eq_true hA.1
    have z1 : (2 : Int) ≤ (l.length : Int) := by omega
    have z1n : 2 ≤ l.length := hA.1
    have z2 : (r : Int) < 256 := by omega
    clear hcell hC hc hmx hop hb hx hA
    by_cases h0 : x < 0
    · have t2 : decide (0 ≤ x) = false := decide_eq_false (by omega)
      have HS := Lib.hid (show smallB x = false from decide_eq_false (by omega))
      clear h0 hr
      go_enter Try.func67, Try.ntmps67
      go_wp2_with fail
      refine Q.wp_region_segs none [([0, 1, 2, 3, 4, 5, 6, 7, 8, 9, 10, 11, 12, 13, 14, 15, 16, 17, 18], none)] (by kernel_rfl) (by kernel_rfl) (by kernel_rfl) (by kernel_rfl) ?_
      dsimp only [Q.wpSegs, Q.picks, Q.pick]
      repeat (go_big_quiet_step (fail))
      refine wpQuiet_nil ?_
      refine NoPanic.normal ?_
      go_wp2_with fail
      go_ret3
      refine ⟨?_, stay0 w⟩
      rw [HE.out, HS.out]
      rfl
    by_cases h1 : 255 < x
    · have t2 : decide (0 ≤ x) = true := decide_eq_true (by omega)
      have t3 : decide (x ≤ 255) = false := decide_eq_false (by omega)
      have HS := Lib.hid (show smallB x = false from decide_eq_false (by omega))
      clear h0 h1 hr
      go_enter Try.func67, Try.ntmps67
      go_wp2_with fail
      refine Q.wp_region_segs none [([0, 1, 2, 3, 4, 5, 6, 7, 8, 9, 10, 11, 12, 13, 14, 15, 16, 17, 18], none)] (by kernel_rfl) (by kernel_rfl) (by kernel_rfl) (by kernel_rfl) ?_
      dsimp only [Q.wpSegs, Q.picks, Q.pick]
      repeat (go_big_quiet_step (fail))
      refine wpQuiet_nil ?_
      refine NoPanic.normal ?_
      go_wp2_with fail
      go_ret3
      refine ⟨?_, stay0 w⟩
      rw [HE.out, HS.out]
      rfl
    have t2 : decide (0 ≤ x) = true := decide_eq_true (by omega)
    have t3 : decide (x ≤ 255) = true := decide_eq_true (by omega)
    have HS := Lib.hid (show smallB x = true from decide_eq_true (by omega))
    clear h0 h1 hr
    go_enter Try.func67, Try.ntmps67
    go_wp2_with fail
    refine Q.wp_region_segs none [([0, 1, 2, 3, 4, 5, 6, 7, 8, 9, 10, 11, 12, 13, 14, 15, 16, 17, 18], none)] (by kernel_rfl) (by kernel_rfl) (by kernel_rfl) (by kernel_rfl) ?_
    dsimp only [Q.wpSegs, Q.picks, Q.pick]
    repeat (go_big_quiet_step (fail))
    refine wpQuiet_nil ?_
    refine NoPanic.normal ?_
    go_wp2_with fail
    go_ret3
    refine ⟨?_, stay0 w⟩
    rw [HE.out, HS.out]
    rfl
  by_cases hB : 4 ≤ l.length ∧ l.getD 0 0 = 2
  · obtain ⟨b, off, rfl, hb, hcell⟩ := hop.resolve_left (fun h => by rw [h] at hB; simp at hB)
    have hv0 : vN l 3 = (65536 * (l.getD 1 0 % 256) + 256 * (l.getD 2 0 % 256) + l.getD 3 0 % 256).toNat := by
      show 256 * (256 * (256 * 0 + (l.getD (1 + 0) 0 % 256).toNat) + (l.getD (1 + 1) 0 % 256).toNat) + (l.getD (1 + 2) 0 % 256).toNat = _
      simp only [Nat.reduceAdd]
      omega
    have HE := Lib.hid (show colR l = (33554432 + vN l 3, 4, okN l 3) from by
      unfold colR
      rw [if_neg hA, if_pos hB, hv0]
      refine Prod.ext (by dsimp only; omega) (Prod.ext rfl ?_)
      show _ = (((true && smallB (l.getD (1 + 0) 0)) && smallB (l.getD (1 + 1) 0)) && smallB (l.getD (1 + 2) 0))
      rw [Bool.true_and])
    have c0 : w.cell? ⟨b, off, none⟩ = _ := hcell 0 (by omega)
    rw [hB.2] at c0
    obtain ⟨i0, hi0, hz0⟩ := info_of info_i
    obtain ⟨A', c', hcut, hc', hCut⟩ := cutm (P := Try.prog) .i64 72 3 Try.underlying72 hi0 hz0 (some ⟨b, off, none⟩) l.length c 1 4 3 (by omega) (by omega) (by omega) hc
    have hC2 := (hCut w l rfl hC).1
    have hlen := (hCut w l rfl hC).2
    have e3 : ∀ j, j < 3 → ((l.take (4 : Int).toNat).drop (1 : Int).toNat).getD j 0 = l.getD (1 + j) 0 := fun j hj => by
      show ((l.take 4).drop 1).getD j 0 = _
      rw [List.getD_eq_getElem?_getD, List.getElem?_drop, List.getElem?_take_of_lt (by omega), ← List.getD_eq_getElem?_getD]
    rw [← hlen] at hC2
    obtain ⟨_, hop2⟩ := C_open hC2
    obtain ⟨b2, off2, rfl, hb2, hcell2⟩ := hop2.resolve_left (fun h => by rw [h] at hlen; simp at hlen)
    rw [hlen] at hcell2
    have HK := Lib.hid (show ∀ j, j < 3 → w.cell? ⟨b2, off2 + j, none⟩ = some (.int .i64 (l.getD (1 + j) 0)) from fun j hj => by rw [hcell2 j hj, e3 j hj])
    have t1 : decide (2 ≤ (l.length : Int)) = true := decide_eq_true (by omega)
    have t1n : decide (2 ≤ l.length) = true := decide_eq_true (by omega)
    have t2 : decide ((l.length : Int) < 4) = false := decide_eq_false (by omega)
    have t2n : decide (l.length < 4) = false := decide_eq_false (by omega)
    have z1 : (4 : Int) ≤ (l.length : Int) := by omega
    have z1n : 4 ≤ l.length := by omega
    have HV := Lib.hid (vN_lt l)
    clear hcell hC hc hmx hop hA hB hv0 hC2 hlen e3 hop2 hcell2 hCut hc' hi0 hz0 hb hb2
    go_enter Try.func67, Try.ntmps67
    go_wp2_with fail
    clear hcut c0 t1 t1n t2 t2n z1 z1n
    go_loopg [5, 6, 48] 4 (fun g v5 v6 v48 w' => ∃ i : Nat, v5 = .int .u32 (vN l i : Nat) ∧ v6 = .bool (okN l i) ∧ v48 = .int .i64 (i : Int) ∧ Hid (i ≤ 3 ∧ 3 < g + i) ∧ w' = w)
    case atStart => exact ⟨0, rfl, rfl, rfl, Lib.hid ⟨by omega, by omega⟩, rfl⟩
    case round =>
      obtain ⟨i, rfl, rfl, rfl, HJ, rfl⟩ := hrel
      cases gk with
      | zero => have := HJ.out; omega
      | succ k =>
        by_cases hi : i < 3
        · have HJ' := Lib.hid (show i < 3 ∧ 3 < (k + 1) + i from ⟨hi, HJ.out.2⟩)
          have c1 := HK.out i hi
          have hv := HV.out i
          have hp : 256 ^ i ≤ 65536 := by
            have := Nat.pow_le_pow_right (n := 256) (by decide) (show i ≤ 2 by omega)
            exact this
          have HN := Lib.hid (show vN l (i + 1) = 256 * vN l i + (l.getD (1 + i) 0 % 256).toNat from rfl)
          have HO := Lib.hid (show okN l (i + 1) = (okN l i && smallB (l.getD (1 + i) 0)) from rfl)
          generalize l.getD (1 + i) 0 = x at *
          obtain ⟨r, hr⟩ : ∃ r : Nat, x % 256 = (r : Int) := ⟨(x % 256).toNat, by omega⟩
          have hr1 : r < 256 := by omega
          have hbit := and255 x
          rw [hr] at hbit HN
          rw [Int.toNat_natCast] at HN
          obtain ⟨v, hvv⟩ : ∃ v, vN l i = v := ⟨_, rfl⟩
          rw [hvv] at hv HN ⊢
          have z0 : (i : Int) < 3 := by omega
          have z00 : (0 : Int) ≤ (i : Int) := by omega
          have z2 : (r : Int) < 256 := by omega
          have z3 : (v : Int) < 16777216 := by omega
          have hor := or32 v r (by omega) hr1
          cases hk : okN l i with
          | false =>
            rw [hk] at HO
            clear hr hv hp hvv hk HJ hi
            go_wp2_with fail
            go_roundg k
            case measure => have := HJ'.out; omega
            case rel => exact ⟨i + 1, by rw [HN.out, Int.natCast_add, Int.natCast_mul]; rfl, by rw [HO.out]; rfl, by go_num, Lib.hid (by have := HJ'.out; omega), rfl⟩
          | true =>
            rw [hk] at HO
            by_cases h0 : x < 0
            · have t2 : decide (0 ≤ x) = false := decide_eq_false (by omega)
              have HS := Lib.hid (show smallB x = false from decide_eq_false (by omega))
              clear hr hv hp hvv hk HJ hi h0
              go_wp2_with fail
              go_roundg k
              case measure => have := HJ'.out; omega
              case rel => exact ⟨i + 1, by rw [HN.out, Int.natCast_add, Int.natCast_mul]; rfl, by rw [HO.out, HS.out]; rfl, by go_num, Lib.hid (by have := HJ'.out; omega), rfl⟩
            have t2 : decide (0 ≤ x) = true := decide_eq_true (by omega)
            by_cases h1 : 255 < x
            · have t3 : decide (x ≤ 255) = false := decide_eq_false (by omega)
              have HS := Lib.hid (show smallB x = false from decide_eq_false (by omega))
              clear hr hv hp hvv hk HJ hi h0 h1
              go_wp2_with fail
              go_roundg k
              case measure => have := HJ'.out; omega
              case rel => exact ⟨i + 1, by rw [HN.out, Int.natCast_add, Int.natCast_mul]; rfl, by rw [HO.out, HS.out]; rfl, by go_num, Lib.hid (by have := HJ'.out; omega), rfl⟩
            have t3 : decide (x ≤ 255) = true := decide_eq_true (by omega)
            have HS := Lib.hid (show smallB x = true from decide_eq_true (by omega))
            clear hr hv hp hvv hk HJ hi h0 h1
            go_wp2_with fail
            go_roundg k
            case measure => have := HJ'.out; omega
            case rel => exact ⟨i + 1, by rw [HN.out, Int.natCast_add, Int.natCast_mul]; rfl, by rw [HO.out, HS.out]; rfl, by go_num, Lib.hid (by have := HJ'.out; omega), rfl⟩
        · obtain rfl : i = 3 := by have := HJ.out; omega
          have hv := HV.out 3
          have z3 : ((vN l 3 : Nat) : Int) < 16777216 := by have : (256 : Nat) ^ 3 = 16777216 := rfl; omega
          obtain ⟨v, hvv⟩ : ∃ v, vN l 3 = v := ⟨_, rfl⟩
          rw [hvv] at z3 HE ⊢
          clear hv hvv hi
          go_wp2_with fail
          go_ret3
          refine ⟨?_, Below.refl _ _⟩
          rw [HE.out]
          rfl
  have HE := Lib.hid (show colR l = (0, l.length, false) from by unfold colR; rw [if_neg hA, if_neg hB])
  by_cases h2 : l.length < 2
  · have t1 : decide (2 ≤ (l.length : Int)) = false := decide_eq_false (by omega)
    have t1n : decide (2 ≤ l.length) = false := decide_eq_false (by omega)
    have t2 : decide ((l.length : Int) < 4) = true := decide_eq_true (by omega)
    have t2n : decide (l.length < 4) = true := decide_eq_true (by omega)
    clear hC hc hmx hop hA hB h2
    go_enter Try.func67, Try.ntmps67
    go_wp2_with fail
    go_ret3
    exact ⟨by rw [HE.out]; rfl, Below.refl _ _⟩
  obtain ⟨b, off, rfl, hb, hcell⟩ := hop.resolve_left (fun h => by rw [h] at h2; simp at h2)
  have c0 : w.cell? ⟨b, off, none⟩ = _ := hcell 0 (by omega)
  have h5 : l.getD 0 0 ≠ 5 := fun h => hA ⟨by omega, h⟩
  have t1 : decide (2 ≤ (l.length : Int)) = true := decide_eq_true (by omega)
  have t1n : decide (2 ≤ l.length) = true := decide_eq_true (by omega)
  have t5 : (l.getD 0 0 == 5) = false := by rw [beq_eq_false_iff_ne]; exact h5
  have z1 : (2 : Int) ≤ (l.length : Int) := by omega
  have z1n : 2 ≤ l.length := by omega
  by_cases h4 : l.length < 4
  · have t2 : decide ((l.length : Int) < 4) = true := decide_eq_true (by omega)
    have t2n : decide (l.length < 4) = true := decide_eq_true (by omega)
    generalize l.getD 0 0 = x at *
    clear hC hc hmx hop hA hB h2 h4 h5 hcell hb
    go_enter Try.func67, Try.ntmps67
    go_wp2_with fail
    go_ret3
    exact ⟨by rw [HE.out]; rfl, Below.refl _ _⟩
  have h6 : l.getD 0 0 ≠ 2 := fun h => hB ⟨by omega, h⟩
  have t2 : decide ((l.length : Int) < 4) = false := decide_eq_false (by omega)
  have t2n : decide (l.length < 4) = false := decide_eq_false (by omega)
  have t6 : (l.getD 0 0 != 2) = true := by rw [bne_iff_ne]; exact h6
  generalize l.getD 0 0 = x at *
  clear hC hc hmx hop hA hB h2 h4 h5 h6 hcell hb
  go_enter Try.func67, Try.ntmps67
  go_wp2_with fail
  go_ret3
  exact ⟨by rw [HE.out]; rfl, Below.refl _ _⟩
end Go.Proofs.Ythgdbdhonhkkpaa.St
