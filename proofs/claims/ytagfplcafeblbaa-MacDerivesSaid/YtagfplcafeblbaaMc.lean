/-
  mac: Equal, Right.
-/
import Derived.Test.YtagfplcafeblbaaMb
namespace Go.Proofs.Ytagfplcafeblbaa.Mc
open Go.RowKit Go.Proofs.Ytagfplcafeblbaa.L Go.Proofs.Ytagfplcafeblbaa.N Go.Proofs.Ytagfplcafeblbaa.H Go.Proofs.YtagfplcafeblbaaW.PrintWords

theorem take_ext {a b : List Nat} {i : Nat} (ha : i < a.length) (hb : i < b.length) : a.take (i + 1) = b.take (i + 1) ↔ a.take i = b.take i ∧ a.getD i 0 = b.getD i 0 := by
  rw [List.take_succ_eq_append_getElem ha, List.take_succ_eq_append_getElem hb, List.getD_eq_getElem?_getD, List.getElem?_eq_getElem ha, List.getD_eq_getElem?_getD, List.getElem?_eq_getElem hb]
  constructor
  · intro h
    have := List.append_inj h (by simp; omega)
    exact ⟨this.1, by simpa using this.2⟩
  · rintro ⟨h1, h2⟩
    simp only [Option.getD_some] at h2
    rw [h1, h2]
set_option maxRecDepth 100000 in
set_option maxHeartbeats 1600000 in
theorem equal_any (a b : List Nat) (A B : Option Addr) (ca cb : Nat) (w : World) (hA : (Kd.int .u8).C w A a.length (nat a)) (hB : (Kd.int .u8).C w B b.length (nat b)) (ha : ∀ x ∈ a, x < 256) (hb : ∀ x ∈ b, x < 256) :
    Calls Try.prog 35 #[.slice A a.length ca, .slice B b.length cb] w fun e w' => e = .returned (.bool (decide (a = b))) ∧ Below w.heap.size w w' := by
  have hm1 := (B_open hA).1
  have hm2 := (B_open hB).1
  by_cases hl : a.length = b.length
  · have HA := Lib.hid hA
    have HB := Lib.hid hB
    have Ha := Lib.hid ha
    have Hb := Lib.hid hb
    have HL := Lib.hid hl
    have t1 : ((a.length : Int) != (b.length : Int)) = false := by simp [hl]
    have t1n : (a.length != b.length) = false := by simp [hl]
    clear hA hB ha hb hl
    go_enter Try.func35, Try.ntmps35
    go_wp2_with fail
    clear t1 t1n
    go_loopg [5, 14] (a.length + 1) (fun g v5 v14 w' => ∃ i v : Nat, v14 = .int .i64 i ∧ v5 = .int .u8 v ∧ Hid (i ≤ a.length ∧ a.length < g + i) ∧ Hid (v < 256 ∧ (v = 0 ↔ a.take i = b.take i)) ∧ Hid (Below w.heap.size w w'))
    case atStart => exact ⟨0, 0, rfl, rfl, Lib.hid ⟨by omega, by omega⟩, Lib.hid ⟨by decide, by simp⟩, Lib.hid (Below.refl _ _)⟩
    case round =>
      obtain ⟨i, v, rfl, rfl, HJ, HV, HBl⟩ := hrel
      cases gk with
      | zero => have := HJ.out; omega
      | succ k =>
        by_cases hlt : i < a.length
        · have HJ' := Lib.hid (show i < a.length ∧ a.length < (k + 1) + i from ⟨hlt, HJ.out.2⟩)
          have hltb : i < b.length := by have := HL.out; omega
          obtain ⟨b1, o1, rfl, hb1, hc1⟩ := B_at (Kd.C_below HA.out HBl.out) (by omega)
          obtain ⟨b2, o2, rfl, hb2, hc2⟩ := B_at (Kd.C_below HB.out HBl.out) (by omega)
          have q1 := gw hb1 (hc1 i hlt)
          have q2 := gw hb2 (hc2 i hltb)
          have hx := getD_lt hlt Ha.out
          have hy := getD_lt hltb Hb.out
          have HT := Lib.hid (take_ext hlt hltb)
          clear hc1 hc2
          generalize a.getD i 0 = x at q1 hx HT
          generalize b.getD i 0 = y at q2 hy HT
          have e1 := xor_u8 x y hx hy
          have hxy := xor_lt8 hx hy
          have e2 := or_u8 v (x ^^^ y) HV.out.1 hxy
          have hvl : v ||| (x ^^^ y) < 256 := Nat.or_lt_two_pow (n := 8) HV.out.1 hxy
          have HVl := Lib.hid hvl
          obtain ⟨xy, hxye⟩ : ∃ z, x ^^^ y = z := ⟨_, rfl⟩
          rw [hxye] at e1 e2 HVl
          have HXY := Lib.hid hxye
          have z1 : (0 : Int) ≤ (i : Int) := by omega
          have z2 : (i : Int) < (a.length : Int) := by omega
          have z3 : (i : Int) < (b.length : Int) := by omega
          clear hxy hvl hxye hx hy hlt hltb HJ hb1 hb2
          go_wp2_with fail
          refine Q.wp_region_segs none [([0, 1, 2, 3, 4, 5, 6, 7, 8, 9, 10, 11], none)] (by kernel_rfl) (by kernel_rfl) (by kernel_rfl) (by kernel_rfl) ?_
          dsimp only [Q.wpSegs, Q.picks, Q.pick]
          repeat (go_big_quiet_step (fail))
          refine wpQuiet_nil ?_
          refine NoPanic.normal ?_
          go_wp2_with fail
          go_roundg k
          case measure => have := HJ'.out; omega
          case rel => exact ⟨i + 1, v ||| xy, by go_num, rfl, Lib.hid (by have := HJ'.out; omega), Lib.hid ⟨HVl.out, by rw [HT.out, ← HXY.out, or_zero, HV.out.2]⟩, Lib.hid HBl.out.drew⟩
        · have hi : i = a.length := by have := HJ.out; omega
          subst hi
          have hv := HV.out.2
          rw [List.take_length, List.take_of_length_le (by rw [HL.out]; exact Nat.le_refl _)] at hv
          have HVv := Lib.hid hv
          clear hv
          by_cases hz : v = 0
          · have HE := Lib.hid (decide_eq_true (HVv.out.1 hz))
            clear HVv HV
            subst hz
            go_wp2_with fail
            go_ret
            exact ⟨by rw [HE.out]; rfl, HBl.out⟩
          · have t1 : ((v : Int) == 0) = false := by rw [beq_eq_false_iff_ne]; omega
            have t2 : (v == 0) = false := by rw [beq_eq_false_iff_ne]; exact hz
            have HE := Lib.hid (show decide (a = b) = false from decide_eq_false (fun h => hz (HVv.out.2 h)))
            clear hz HVv HV
            go_wp2_with fail
            go_ret
            exact ⟨by rw [HE.out]; rfl, HBl.out⟩
  · have t1 : ((a.length : Int) != (b.length : Int)) = true := by rw [bne_iff_ne]; omega
    have t1n : (a.length != b.length) = true := by rw [bne_iff_ne]; exact hl
    have HN := Lib.hid (show ¬ a = b from fun h => hl (by rw [h]))
    clear hA hB ha hb hl
    go_enter Try.func35, Try.ntmps35
    go_wp2_with fail
    go_ret
    exact ⟨by rw [decide_eq_false HN.out]; rfl, Below.refl _ _⟩
/-- is a text the beginning of a mark? -/
def rightN (key mark b : List Nat) : Bool := decide (8 ≤ mark.length ∧ mark.length ≤ 32 ∧ (markN key b).take mark.length = mark)
set_option maxRecDepth 100000 in
set_option maxHeartbeats 1600000 in
theorem right_any (key mark : List Nat) (L : List (List Nat)) (A Am A2 : Option Addr) (c cm c2 : Nat) (w : World) (hC : (Kd.int .u8).C w A key.length (nat key)) (hc : key.length ≤ c) (hk : ∀ x ∈ key, x < 256) (hl : key.length ≤ 70368744177664) (hM : (Kd.int .u8).C w Am mark.length (nat mark)) (hmk : ∀ x ∈ mark, x < 256) (h : RB w A2 L) (hL : L.length ≤ 100000000) (hlen : L.flatten.length ≤ 100000000000) :
    Calls Try.prog 36 #[.slice A key.length c, .slice Am mark.length cm, .slice A2 L.length c2] w fun e w' => e = .returned (.bool (rightN key mark L.flatten)) ∧ Below w.heap.size w w' := by
  have hm1 := (B_open hM).1
  by_cases h8 : mark.length < 8
  · have t1 : decide ((mark.length : Int) < 8) = true := decide_eq_true (by omega)
    have HN := Lib.hid (show rightN key mark L.flatten = false from decide_eq_false (by omega))
    clear hC hc hk hl hM hmk h hL hlen h8
    go_enter Try.func36, Try.ntmps36
    go_wp2_with fail
    go_ret
    exact ⟨by rw [HN.out]; rfl, Below.refl _ _⟩
  have t1 : decide ((mark.length : Int) < 8) = false := decide_eq_false (by omega)
  by_cases h32 : 32 < mark.length
  · have t2 : decide ((32 : Int) < (mark.length : Int)) = true := decide_eq_true (by omega)
    have HN := Lib.hid (show rightN key mark L.flatten = false from decide_eq_false (by omega))
    clear hC hc hk hl hM hmk h hL hlen h8 h32
    go_enter Try.func36, Try.ntmps36
    go_wp2_with fail
    go_ret
    exact ⟨by rw [HN.out]; rfl, Below.refl _ _⟩
  have t2 : decide ((32 : Int) < (mark.length : Int)) = false := decide_eq_false (by omega)
  have HQ := Lib.hid (mark_any key L A A2 c c2 w hC hc hk hl h hL hlen)
  have HM := Lib.hid hM
  have HMk := Lib.hid hmk
  have HL := Lib.hid (show 8 ≤ mark.length ∧ mark.length ≤ 32 from ⟨by omega, by omega⟩)
  obtain ⟨Z, hZ⟩ : ∃ Z, markN key L.flatten = Z := ⟨_, rfl⟩
  have hZl := markN_len key L.flatten
  have hZt := markN_lt key L.flatten
  rw [hZ] at HQ hZl hZt
  have HRn := Lib.hid (show rightN key mark L.flatten = decide (Z.take mark.length = mark) from by
    unfold rightN
    rw [hZ, decide_eq_decide]
    constructor
    · exact fun h => h.2.2
    · exact fun h => ⟨by omega, by omega, h⟩)
  have HZl := Lib.hid hZl
  have HZt := Lib.hid hZt
  have z1 : (mark.length : Int) ≤ 32 := by omega
  have z2 : (0 : Int) ≤ (mark.length : Int) := by omega
  clear hC hc hk hl hM hmk h hL hlen h8 h32 hZ hZl hZt
  go_enter Try.func36, Try.ntmps36
  go_wp2_with fail
  refine HQ.out.mono ?_
  rintro e w1 ⟨rfl, hb1⟩
  have HB1 := Lib.hid hb1
  clear hb1 HQ
  go_wp2_with (refine store_ab .u8 w1.heap.size z32 Z rfl rfl rfl rfl rfl (AB.mk w1 .u8 tSum z32) (by rw [HZl.out]; exact info_sum) (by rw [HZl.out]; rfl) ?_; intro W5 h5 hg5; (have H5 := Lib.hid h5); (have HG5 := Lib.hid hg5); clear h5 hg5)
  obtain ⟨hb5, hs5⟩ := below_new HG5.out
  have HB5 := Lib.hid (HB1.out.trans (hb5.mono HB1.out.size))
  have hr := H5.out.row (by rw [HZl.out]; decide)
  rw [HZl.out] at hr
  have hct := Kd.C_take (m := mark.length) (show (Kd.int .u8).C W5 (some ⟨w1.heap.size, 0, none⟩) (nat Z).length (nat Z) from by rw [nat_length, HZl.out]; exact hr) (by rw [nat_length, HZl.out]; exact HL.out.2)
  rw [← nat_take, nat_length] at hct
  have htl : (Z.take mark.length).length = mark.length := by rw [List.length_take, HZl.out]; have := HL.out; omega
  have hq := equal_any (Z.take mark.length) mark _ Am 32 cm W5 hct (Kd.C_below HM.out HB5.out) (take_lt _ HZt.out) HMk.out
  rw [htl] at hq
  have HQ := Lib.hid hq
  clear hb5 hs5 hr hct htl hq HG5 HB1
  refine HQ.out.mono ?_
  rintro e w6 ⟨rfl, hb6⟩
  have HB6 := Lib.hid (HB5.out.trans (hb6.mono HB5.out.size))
  clear hb6 HQ
  go_wp2_with fail
  go_ret
  exact ⟨by rw [HRn.out]; rfl, HB6.out⟩
end Go.Proofs.Ytagfplcafeblbaa.Mc
