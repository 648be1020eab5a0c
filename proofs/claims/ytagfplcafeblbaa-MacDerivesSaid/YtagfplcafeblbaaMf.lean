/-
  mac: the law of turned marks.
-/
import Derived.Test.YtagfplcafeblbaaMe
namespace Go.Proofs.Ytagfplcafeblbaa.Mc
open Go.RowKit Go.Proofs.Ytagfplcafeblbaa.L Go.Proofs.Ytagfplcafeblbaa.N Go.Proofs.Ytagfplcafeblbaa.H Go.Proofs.YtagfplcafeblbaaW.PrintWords

theorem xor_ne {x y : Nat} (h : y ≠ 0) : x ^^^ y ≠ x := fun e => h (by
  have : x ^^^ (x ^^^ y) = x ^^^ x := by rw [e]
  rwa [← Nat.xor_assoc, Nat.xor_self, Nat.zero_xor] at this)
theorem right_turned {key b Z : List Nat} {n i y : Nat} (hZ : markN key b = Z) (hn : n ≤ 32) (hi : i < n) (hy : y ≠ 0) : rightN key ((Z.set i (Z.getD i 0 ^^^ y)).take n) b = false := by
  have hl : Z.length = 32 := by rw [← hZ]; exact markN_len key b
  refine decide_eq_false (fun ⟨_, _, h⟩ => ?_)
  have hl2 : ((Z.set i (Z.getD i 0 ^^^ y)).take n).length = n := by rw [List.length_take, List.length_set, hl]; omega
  rw [hl2, hZ] at h
  have h1 := congrArg (fun l : List Nat => l.getD i 0) h
  simp only [List.getD_eq_getElem?_getD, List.getElem?_take_of_lt hi, List.getElem?_set_self (show i < Z.length by omega), Option.getD_some] at h1
  exact xor_ne hy h1.symm
/-- Right, of the beginning of an array and of one row -/
theorem right_row {key b Z : List Nat} {A B : Option Addr} {ca cb b1 n : Nat} {w W : World} (hA : (Kd.int .u8).C w A key.length (nat key)) (hca : key.length ≤ ca) (ha : ∀ x ∈ key, x < 256) (hB : (Kd.int .u8).C w B b.length (nat b)) (hcb : b.length ≤ cb) (hb : ∀ x ∈ b, x < 256) (hk : key.length ≤ 1000000) (hbl : b.length ≤ 1000000) (hn : n ≤ 32)
    (h : AB .u8 tSum b1 Z W) (hZ : Z.length = 32) (hZt : ∀ x ∈ Z, x < 256) (hw : Below w.heap.size w W) :
    Calls Try.prog 36 #[.slice A key.length ca, .slice (some ⟨b1, 0, none⟩) n 32, .slice (some ⟨W.heap.size, 0, none⟩) 1 1] (W.alloc (.cells #[.slice B b.length cb] 22)) fun e w' => e = .returned (.bool (rightN key (Z.take n) b)) ∧ Below (W.alloc (.cells #[.slice B b.length cb] 22)).heap.size (W.alloc (.cells #[.slice B b.length cb] 22)) w' := by
  have hr := h.row (by rw [hZ]; decide)
  rw [hZ] at hr
  have hct := Kd.C_take (m := n) (show (Kd.int .u8).C W (some ⟨b1, 0, none⟩) (nat Z).length (nat Z) from by rw [nat_length, hZ]; exact hr) (by rw [nat_length, hZ]; exact hn)
  rw [← nat_take, nat_length] at hct
  have htl : (Z.take n).length = n := by rw [List.length_take, hZ]; omega
  have hq := right_any key (Z.take n) [b] A (some ⟨b1, 0, none⟩) _ ca 32 1 (W.alloc (.cells #[.slice B b.length cb] 22)) (Kd.C_alloc (Kd.C_below hA hw) _) hca ha (by omega) (Kd.C_alloc hct _) (take_lt _ hZt) (RB_one 22 (Kd.C_below hB hw) hb hcb) (by simp) (by simp; omega)
  rw [htl, show ([b] : List (List Nat)).flatten = b from by simp] at hq
  exact hq
set_option maxRecDepth 100000 in
set_option maxHeartbeats 3200000 in
theorem turned_nat (key b : List Nat) (A B : Option Addr) (ca cb : Nat) (n at' : Int) (y : Nat) (w : World) (hA : (Kd.int .u8).C w A key.length (nat key)) (hca : key.length ≤ ca) (ha : ∀ x ∈ key, x < 256) (hB : (Kd.int .u8).C w B b.length (nat b)) (hcb : b.length ≤ cb) (hb : ∀ x ∈ b, x < 256) (hy : y < 256) :
    Calls Try.prog 12 #[.slice A key.length ca, .slice B b.length cb, .int .i64 n, .int .i64 at', .int .u8 (y : Int)] w fun e w' => e = .returned (.bool true) ∧ Below w.heap.size w w' := by
  have hm1 := (B_open hA).1
  have hm2 := (B_open hB).1
  by_cases hg0 : 300 < key.length
  · have HAl := Lib.hid (alive_any w)
    have tg_key : decide ((300 : Int) < (key.length : Int)) = true := decide_eq_true (by omega)
    clear hA hca ha hB hcb hb hg0
    go_enter Try.func12, Try.ntmps12
    go_wp2_with fail
    refine HAl.out.mono ?_
    rintro e w1 ⟨rfl, hb⟩
    go_wp2_with fail
    go_ret
    exact ⟨rfl, hb⟩
  have tg_key : decide ((300 : Int) < (key.length : Int)) = false := decide_eq_false (by omega)
  by_cases hg1 : 1000 < b.length
  · have HAl := Lib.hid (alive_any w)
    have tg_b : decide ((1000 : Int) < (b.length : Int)) = true := decide_eq_true (by omega)
    clear hA hca ha hB hcb hb hg0 hg1
    go_enter Try.func12, Try.ntmps12
    go_wp2_with fail
    refine HAl.out.mono ?_
    rintro e w1 ⟨rfl, hb⟩
    go_wp2_with fail
    go_ret
    exact ⟨rfl, hb⟩
  have tg_b : decide ((1000 : Int) < (b.length : Int)) = false := decide_eq_false (by omega)
  by_cases hg2 : n < 8
  · have HAl := Lib.hid (alive_any w)
    have tl_n : decide (n < 8) = true := decide_eq_true (by omega)
    clear hA hca ha hB hcb hb hg0 hg1 hg2
    go_enter Try.func12, Try.ntmps12
    go_wp2_with fail
    refine HAl.out.mono ?_
    rintro e w1 ⟨rfl, hb⟩
    go_wp2_with fail
    go_ret
    exact ⟨rfl, hb⟩
  have tl_n : decide (n < 8) = false := decide_eq_false (by omega)
  by_cases hg3 : 32 < n
  · have HAl := Lib.hid (alive_any w)
    have tr_n : decide (32 < n) = true := decide_eq_true (by omega)
    clear hA hca ha hB hcb hb hg0 hg1 hg2 hg3
    go_enter Try.func12, Try.ntmps12
    go_wp2_with fail
    refine HAl.out.mono ?_
    rintro e w1 ⟨rfl, hb⟩
    go_wp2_with fail
    go_ret
    exact ⟨rfl, hb⟩
  have tr_n : decide (32 < n) = false := decide_eq_false (by omega)
  obtain ⟨m, rfl⟩ : ∃ m : Nat, n = (m : Int) := ⟨n.toNat, by omega⟩
  have HA := Lib.hid hA
  have HCa := Lib.hid hca
  have Ha := Lib.hid ha
  have HB := Lib.hid hB
  have HCb := Lib.hid hcb
  have Hb := Lib.hid hb
  have Hy := Lib.hid hy
  have HL := Lib.hid (show key.length ≤ 300 ∧ b.length ≤ 1000 ∧ 8 ≤ m ∧ m ≤ 32 from ⟨by omega, by omega, by omega, by omega⟩)
  have z1 : (m : Int) ≤ 32 := by omega
  have z2 : (0 : Int) ≤ (m : Int) := by omega
  clear hA hca ha hB hcb hb hy hg0 hg1 hg2 hg3
  go_enter Try.func12, Try.ntmps12
  go_wp2_with fail
  have hq := mark_any key [b] A _ ca 1 _ (Kd.C_alloc HA.out (.cells #[.slice B b.length cb] 22)) HCa.out Ha.out (by have := HL.out; omega) (RB_one 22 HB.out Hb.out HCb.out) (by simp) (by have := HL.out; simp; omega)
  rw [show ([b] : List (List Nat)).flatten = b from by simp] at hq
  have HQ := Lib.hid hq
  clear hq
  obtain ⟨Z, hZ⟩ : ∃ Z, markN key b = Z := ⟨_, rfl⟩
  have hZl := markN_len key b
  have hZt := markN_lt key b
  rw [hZ] at HQ hZl hZt
  have HZl := Lib.hid hZl
  have HZt := Lib.hid hZt
  have HZe := Lib.hid hZ
  clear hZ hZl hZt
  refine HQ.out.mono ?_
  rintro e W1 ⟨rfl, hb1⟩
  have HB1 := Lib.hid (((Below.refl w.heap.size w).alloc (Nat.le_refl _) (.cells #[.slice B b.length cb] 22)).trans (hb1.mono (by rw [alloc_size]; omega)))
  clear hb1 HQ
  go_wp2_with (refine store_ab .u8 W1.heap.size z32 Z rfl rfl rfl rfl rfl (AB.mk W1 .u8 tSum z32) (by rw [HZl.out]; exact info_sum) (by rw [HZl.out]; rfl) ?_; intro W2 h2 hg2; (have H2 := Lib.hid h2); (have HG2 := Lib.hid hg2); clear h2 hg2)
  obtain ⟨hb2, hs2⟩ := below_new HG2.out
  have HB2 := Lib.hid (HB1.out.trans (hb2.mono HB1.out.size))
  have HBw := Lib.hid (show w.heap.size ≤ W1.heap.size from HB1.out.size)
  clear hb2 hs2 HG2 HB1
  generalize W1.heap.size = b1 at *
  have hq := right_row (W := W2) (n := m) HA.out HCa.out Ha.out HB.out HCb.out Hb.out (by have := HL.out; omega) (by have := HL.out; omega) (by have := HL.out; omega) H2.out HZl.out HZt.out HB2.out
  rw [show rightN key (Z.take m) b = true from by rw [← HZe.out]; exact right_self (by have := HL.out; omega) (by have := HL.out; omega)] at hq
  have HQ := Lib.hid hq
  clear hq
  refine HQ.out.mono ?_
  rintro e W3 ⟨rfl, hb3⟩
  have hb23 : Below W2.heap.size W2 W3 := ((Below.refl _ _).alloc (Nat.le_refl _) (.cells #[.slice B b.length cb] 22)).trans (hb3.mono (by rw [alloc_size]; omega))
  have HB3 := Lib.hid (HB2.out.trans (hb23.mono HB2.out.size))
  have H3 := Lib.hid (H2.out.below H2.out.lt hb23)
  clear hb3 hb23 HQ HB2 H2
  by_cases hin : 0 ≤ at' ∧ at' < (m : Int) ∧ y ≠ 0
  · obtain ⟨h0, h1, hy0⟩ := hin
    obtain ⟨i, rfl⟩ : ∃ i : Nat, at' = (i : Int) := ⟨at'.toNat, by omega⟩
    have t1 : decide ((i : Int) < 0) = false := decide_eq_false (by omega)
    have t2 : decide ((m : Int) ≤ (i : Int)) = false := decide_eq_false (by omega)
    have t2n : decide (m ≤ i) = false := decide_eq_false (by omega)
    have t3 : ((y : Int) == 0) = false := by rw [beq_eq_false_iff_ne]; omega
    have t3n : (y == 0) = false := by rw [beq_eq_false_iff_ne]; exact hy0
    have t4 : (i : Int) < 32 := by omega
    have hil : i < Z.length := by rw [HZl.out]; omega
    have c1 := H3.out.cell hil
    have fz := H3.out.fz i
    have hx := getD_lt hil HZt.out
    have HRt := Lib.hid (right_turned (i := i) (y := y) HZe.out (show m ≤ 32 by omega) (by omega) hy0)
    have h1' := H3.out.set i (Z.getD i 0 ^^^ y)
    have HS := Lib.hid h1'
    have HSt := Lib.hid (set_lt (i := i) (x := Z.getD i 0 ^^^ y) HZt.out (xor_lt8 hx Hy.out))
    have hsl : (Z.set i (Z.getD i 0 ^^^ y)).length = 32 := by rw [List.length_set]; exact HZl.out
    have HSl := Lib.hid hsl
    obtain ⟨x, hxe⟩ : ∃ x, Z.getD i 0 = x := ⟨_, rfl⟩
    rw [hxe] at c1 hx HRt HS HSt HSl
    have e1 := xor_u8 x y hx Hy.out
    have z3 : (0 : Int) ≤ (i : Int) := by omega
    clear h0 h1 hy0 hil hx h1' hsl hxe
    go_wp2_with fail
    refine calls_at fun W4 hW4 => ?_
    rw [← hW4] at HS
    have HB4 := Lib.hid (show Below w.heap.size w W4 from hW4 ▸ below_grown HB3.out HB3.out.size (grown_set _ _ _ _) HBw.out)
    clear hW4 c1 fz e1 H3 HB3
    generalize Z.set i (x ^^^ y) = Y at HRt HS HSt HSl
    refine (alive_any W4).mono ?_
    rintro e W5 ⟨rfl, hb5⟩
    have HB5 := Lib.hid (HB4.out.trans (hb5.mono HB4.out.size))
    have H5 := Lib.hid (HS.out.below HS.out.lt hb5)
    clear hb5 HB4 HS
    go_wp2_with fail
    have hq := right_row (W := W5) (n := m) HA.out HCa.out Ha.out HB.out HCb.out Hb.out (by have := HL.out; omega) (by have := HL.out; omega) (by have := HL.out; omega) H5.out HSl.out HSt.out HB5.out
    rw [HRt.out] at hq
    have HQ := Lib.hid hq
    clear hq
    refine HQ.out.mono ?_
    rintro e W6 ⟨rfl, hb6⟩
    have HB6 := Lib.hid (HB5.out.trans ((((Below.refl _ _).alloc (Nat.le_refl _) (.cells #[.slice B b.length cb] 22)).trans (hb6.mono (by rw [alloc_size]; omega))).mono HB5.out.size))
    clear hb6 HQ
    go_wp2_with fail
    go_ret
    exact ⟨rfl, HB6.out⟩
  · have HAl := Lib.hid (alive_any W3)
    by_cases h0 : at' < 0
    · have t1 : decide (at' < 0) = true := decide_eq_true h0
      clear hin h0
      go_wp2_with fail
      refine HAl.out.mono ?_
      rintro e W5 ⟨rfl, hb5⟩
      have HB5 := Lib.hid (HB3.out.trans (hb5.mono HB3.out.size))
      clear hb5
      go_wp2_with fail
      go_ret
      exact ⟨rfl, HB5.out⟩
    · have t1 : decide (at' < 0) = false := decide_eq_false h0
      by_cases h1 : (m : Int) ≤ at'
      · have t2 : decide ((m : Int) ≤ at') = true := decide_eq_true h1
        clear hin h0 h1
        go_wp2_with fail
        refine HAl.out.mono ?_
        rintro e W5 ⟨rfl, hb5⟩
        have HB5 := Lib.hid (HB3.out.trans (hb5.mono HB3.out.size))
        clear hb5
        go_wp2_with fail
        go_ret
        exact ⟨rfl, HB5.out⟩
      · have t2 : decide ((m : Int) ≤ at') = false := decide_eq_false h1
        have hy0 : y = 0 := by
          rcases Nat.eq_zero_or_pos y with h | h
          · exact h
          · exact absurd ⟨by omega, by omega, by omega⟩ hin
        subst hy0
        clear hin h0 h1
        go_wp2_with fail
        refine HAl.out.mono ?_
        rintro e W5 ⟨rfl, hb5⟩
        have HB5 := Lib.hid (HB3.out.trans (hb5.mono HB3.out.size))
        clear hb5
        go_wp2_with fail
        go_ret
        exact ⟨rfl, HB5.out⟩
theorem turned_walk (key : List Int) (A : Option Addr) (ca : Nat) (b : List Int) (B : Option Addr) (cb : Nat) (n at' y : Int) (w : World) (hA : (Kd.int .u8).C w A key.length key) (hca : key.length ≤ ca) (ha : ∀ x ∈ key, 0 ≤ x ∧ x < 256) (hB : (Kd.int .u8).C w B b.length b) (hcb : b.length ≤ cb) (hb : ∀ x ∈ b, 0 ≤ x ∧ x < 256) (hy : 0 ≤ y ∧ y < 256) :
    Calls Try.prog 12 #[.slice A key.length ca, .slice B b.length cb, .int .i64 n, .int .i64 at', .int .u8 y] w fun e w' => e = .returned (.bool true) ∧ Below w.heap.size w w' := by
  obtain ⟨m1, e1, k1, l1, _⟩ := C_nat (m := 256) hA ha
  obtain ⟨m2, e2, k2, l2, _⟩ := C_nat (m := 256) hB hb
  obtain ⟨y, rfl⟩ : ∃ z : Nat, y = (z : Int) := ⟨y.toNat, by omega⟩
  rw [← e1, ← e2]
  exact turned_nat m1 m2 A B ca cb n at' y w k1 (by omega) l1 k2 (by omega) l2 (by omega)
end Go.Proofs.Ytagfplcafeblbaa.Mc
