/-
  crc: the law of xor.
-/
import Derived.Test.YtagfplcafeblbaaCf
namespace Go.Proofs.Ytagfplcafeblbaa.C
open Go.RowKit Go.Proofs.Ytagfplcafeblbaa.L Go.Proofs.YtagfplcafeblbaaW.PrintWords

def toN (l : List Int) : List Nat := l.map Int.toNat
theorem natB_toN {l : List Int} (h : ∀ x ∈ l, 0 ≤ x ∧ x < 256) : natB (toN l) = l := by
  unfold natB toN
  rw [List.map_map]
  refine (List.map_congr_left (fun x hx => ?_)).trans (List.map_id l)
  show ((x.toNat : Nat) : Int) = x
  have := h x hx
  omega
theorem toN_lt {l : List Int} (h : ∀ x ∈ l, 0 ≤ x ∧ x < 256) : ∀ x ∈ toN l, x < 256 := by
  intro x hx
  obtain ⟨y, hy, rfl⟩ := List.mem_map.1 hx
  have := h y hy
  omega
theorem toN_length (l : List Int) : (toN l).length = l.length := by simp [toN]
theorem C_nat {w : World} {A : Option Addr} {l : List Int} (hC : (Kd.int .u8).C w A l.length l) (h : ∀ x ∈ l, 0 ≤ x ∧ x < 256) : ∃ m : List Nat, m.length = l.length ∧ (Kd.int .u8).C w A m.length (natB m) ∧ (∀ x ∈ m, x < 256) ∧ l = natB m :=
  ⟨toN l, toN_length l, by rw [natB_toN h, toN_length]; exact hC, toN_lt h, (natB_toN h).symm⟩
theorem getD_lt {l : List Nat} {j : Nat} (h : j < l.length) (hl : ∀ x ∈ l, x < 256) : l.getD j 0 < 256 := hl _ (by rw [List.getD_eq_getElem?_getD, List.getElem?_eq_getElem h]; simp)
theorem natB_snoc {l : List Nat} {j : Nat} (h : j < l.length) : natB (l.take j) ++ [((l.getD j 0 : Nat) : Int)] = natB (l.take (j + 1)) := by
  rw [List.take_succ_eq_append_getElem h, natB_app, List.getD_eq_getElem?_getD, List.getElem?_eq_getElem h]
  rfl
/-- three rows, xor'ed -/
def x3 (a b c : List Nat) : List Nat := List.zipWith (· ^^^ ·) (List.zipWith (· ^^^ ·) a b) c
theorem x3_length {a b c : List Nat} (h1 : a.length = b.length) (h2 : b.length = c.length) : (x3 a b c).length = a.length := by simp [x3]; omega
theorem x3_get {a b c : List Nat} (h1 : a.length = b.length) (h2 : b.length = c.length) {j : Nat} (hj : j < a.length) : (x3 a b c).getD j 0 = a.getD j 0 ^^^ b.getD j 0 ^^^ c.getD j 0 := by
  simp [x3, List.getD_eq_getElem?_getD, List.getElem?_zipWith, List.getElem?_eq_getElem hj, List.getElem?_eq_getElem (h1 ▸ hj), List.getElem?_eq_getElem (h2 ▸ h1 ▸ hj)]
theorem x3_lt {a b c : List Nat} (h1 : a.length = b.length) (h2 : b.length = c.length) (ha : ∀ x ∈ a, x < 256) (hb : ∀ x ∈ b, x < 256) (hc : ∀ x ∈ c, x < 256) : ∀ x ∈ x3 a b c, x < 256 := by
  intro x hx
  obtain ⟨j, hj, rfl⟩ := List.mem_iff_getElem.1 hx
  have hl := x3_length h1 h2
  have := x3_get h1 h2 (j := j) (by omega)
  rw [List.getD_eq_getElem?_getD, List.getElem?_eq_getElem hj] at this
  rw [show (x3 a b c)[j] = _ from this]
  exact Nat.xor_lt_two_pow (n := 8) (Nat.xor_lt_two_pow (n := 8) (getD_lt (by omega) ha) (getD_lt (by omega) hb)) (getD_lt (by omega) hc)

set_option maxHeartbeats 1600000 in
set_option maxRecDepth 100000 in
theorem linear_nat (a b c : List Nat) (A B C : Option Addr) (ca cb cc : Nat) (w : World) (hA : (Kd.int .u8).C w A a.length (natB a)) (hB : (Kd.int .u8).C w B b.length (natB b)) (hC : (Kd.int .u8).C w C c.length (natB c))
    (la : ∀ x ∈ a, x < 256) (lb : ∀ x ∈ b, x < 256) (lc : ∀ x ∈ c, x < 256) :
    Calls Try.prog 9 #[.slice A a.length ca, .slice B b.length cb, .slice C c.length cc] w fun e w' => e = .returned (.bool true) ∧ Below w.heap.size w w' := by
  have HAl := Lib.hid (alive_any w)
  have ma := (B_open hA).1
  have mb := (B_open hB).1
  have mc := (B_open hC).1
  by_cases h1 : 3000 < a.length
  · have z1 : decide ((3000 : Int) < (a.length : Int)) = true := decide_eq_true (by omega)
    have z0 : (3000 : Int) < (a.length : Int) := by omega
    clear hA hB hC la lb lc h1
    go_enter Try.func9, Try.ntmps9
    go_wp2_with fail
    refine HAl.out.mono ?_
    rintro e w1 ⟨rfl, hb⟩
    go_wp2_with fail
    go_ret
    exact ⟨rfl, hb⟩
  by_cases h2 : a.length = b.length
  · by_cases h3 : b.length = c.length
    · have z1 : decide ((3000 : Int) < (a.length : Int)) = false := decide_eq_false (by omega)
      have z2 : ((a.length : Int) != (b.length : Int)) = false := by simp [h2]
      have z3 : ((b.length : Int) != (c.length : Int)) = false := by simp [h3]
      have HA := Lib.hid hA
      have HB := Lib.hid hB
      have HC := Lib.hid hC
      have HL := Lib.hid (show (∀ x ∈ a, x < 256) ∧ (∀ x ∈ b, x < 256) ∧ (∀ x ∈ c, x < 256) from ⟨la, lb, lc⟩)
      have HH := Lib.hid (show a.length ≤ 3000 ∧ a.length = b.length ∧ b.length = c.length from ⟨by omega, h2, h3⟩)
      obtain ⟨D, hD⟩ : ∃ D, D = x3 a b c := ⟨_, rfl⟩
      have HD := Lib.hid hD
      have HDl := Lib.hid (show D.length = a.length from hD ▸ x3_length h2 h3)
      have hma : a.length ≤ 3000 := by omega
      clear hA hB hC la lb lc h1 h2 h3 hD
      go_enter Try.func9, Try.ntmps9
      go_wp2_with fail
      clear z1 z2 z3
      go_loopg [7, 8] (a.length + 1) (fun g v7 v8 w' => ∃ i : Nat, v8 = .int .i64 i ∧ Hid (i ≤ a.length ∧ a.length < g + i) ∧ Hid ((Kd.int .u8).R 5 w' w.heap.size (fun _ => True) v7 (natB (D.take i))) ∧ Hid (Below w.heap.size w w'))
      case atStart => exact ⟨0, rfl, Lib.hid ⟨by omega, by omega⟩, Lib.hid (Kd.R_nil _ _ _ _ _), Lib.hid (Below.refl _ _)⟩
      case round =>
        obtain ⟨i, rfl, HJ, HR, HBl⟩ := hrel
        cases gk with
        | zero => have := HJ.out; omega
        | succ k =>
          by_cases hlt : i < a.length
          · have HJ' := Lib.hid (show i < a.length ∧ a.length < (k + 1) + i from ⟨hlt, HJ.out.2⟩)
            have hltb : i < b.length := by have := HH.out; omega
            have hltc : i < c.length := by have := HH.out; omega
            rcases (B_open HA.out).2 with e | ⟨b1, o1, rfl, hb1, hc1⟩
            · subst e; simp at hlt
            rcases (B_open HB.out).2 with e | ⟨b2, o2, rfl, hb2, hc2⟩
            · subst e; simp at hltb
            rcases (B_open HC.out).2 with e | ⟨b3, o3, rfl, hb3, hc3⟩
            · subst e; simp at hltc
            have hdv := x3_get HH.out.2.1 HH.out.2.2 hlt
            rw [← HD.out] at hdv
            have q1 := hc1 i hlt
            have q2 := hc2 i hltb
            have q3 := hc3 i hltc
            have hx := getD_lt hlt HL.out.1
            have hy := getD_lt hltb HL.out.2.1
            have hz := getD_lt hltc HL.out.2.2
            clear hc1 hc2 hc3
            generalize a.getD i 0 = x at q1 hdv hx
            generalize b.getD i 0 = y at q2 hdv hy
            generalize c.getD i 0 = z at q3 hdv hz
            have e1 := xor_u8 x y hx hy
            have hxy : x ^^^ y < 256 := Nat.xor_lt_two_pow (n := 8) hx hy
            have e2 := xor_u8 (x ^^^ y) z hxy hz
            rw [← hdv] at e2
            obtain ⟨d, hd⟩ : ∃ d, D.getD i 0 = d := ⟨_, rfl⟩
            rw [hd] at e2
            have HDd := Lib.hid hd
            have hdl : d < 256 := by rw [← hd, hdv]; exact Nat.xor_lt_two_pow (n := 8) hxy hz
            generalize x ^^^ y = xy at e1 e2 hxy
            clear hdv hd
            have g1 : ∀ m : Q.GW wr.drew w.heap.size none, m.w.cell? ⟨b1, o1 + i, none⟩ = some (.int .u8 x) := fun m => (((m.belowB (Nat.le_refl _) (fun _ h => by cases h)).cell (p := ⟨b1, o1 + i, none⟩) hb1).trans (HBl.out.drew.cell (p := ⟨b1, o1 + i, none⟩) hb1)).trans q1
            have g2 : ∀ m : Q.GW wr.drew w.heap.size none, m.w.cell? ⟨b2, o2 + i, none⟩ = some (.int .u8 y) := fun m => (((m.belowB (Nat.le_refl _) (fun _ h => by cases h)).cell (p := ⟨b2, o2 + i, none⟩) hb2).trans (HBl.out.drew.cell (p := ⟨b2, o2 + i, none⟩) hb2)).trans q2
            have g3 : ∀ m : Q.GW wr.drew w.heap.size none, m.w.cell? ⟨b3, o3 + i, none⟩ = some (.int .u8 z) := fun m => (((m.belowB (Nat.le_refl _) (fun _ h => by cases h)).cell (p := ⟨b3, o3 + i, none⟩) hb3).trans (HBl.out.drew.cell (p := ⟨b3, o3 + i, none⟩) hb3)).trans q3
            have z4 : (i : Int) < (a.length : Int) := by omega
            have z5 : (i : Int) < (b.length : Int) := by omega
            have z7 : (i : Int) < (c.length : Int) := by omega
            have z6 : (0 : Int) ≤ (i : Int) := by omega
            have z8 : decide ((i : Int) < (a.length : Int)) = true := decide_eq_true z4
            clear q1 q2 q3 hb1 hb2 hb3 HJ
            go_wp2_with fail
            refine Q.wp_region_segsB w.heap.size none [([0, 1, 2, 3, 4, 5, 6, 7, 8, 9, 10, 11, 12, 13, 14], some 15), ([], some 16), ([17], none)] (by kernel_rfl) (by kernel_rfl) (by kernel_rfl) (by kernel_rfl) ?_
            dsimp only [Q.wpSegs, Q.picks, Q.pick]
            repeat (go_big_quiet_step (fail))
            refine wpQuiet_nil ?_
            clear g1 g2 g3 z4 z5 z6 z7 z8 e1 e2 hx hy hz hxy
            refine Q.ev_lit1 22 5 .u8 1 _ (d : Int) rfl rfl rfl Try.underlying22 S.info_u8 rfl HBl.out.size ?_
            refine wpQuiet_nil ?_
            refine Q.ev_app1 22 5 .u8 1 _ _ _ (natB (D.take i)) (d : Int) wr.heap.size rfl rfl rfl Try.underlying22 S.info_u8 (by decide) rfl rfl (Kd.R_below HR.out (stay1 (stay0 wr) ((Below.refl _ _).alloc (Nat.le_refl _) _))) (heap_alloc_new wr.drew _) (Nat.le_trans HBl.out.size (by simp)) (by rw [natB_length]; have := HJ'.out; have := HH.out.1; simp; omega) ?_
            intro v4 w4 hr4 hb4 _
            have HR4 := Lib.hid hr4
            have HB4 := Lib.hid ((HBl.out.trans ((stay1 (stay0 wr) ((Below.refl _ _).alloc (Nat.le_refl _) _)).mono HBl.out.size)).trans hb4)
            clear hr4 hb4
            go_simp
            repeat (go_big_quiet_step (fail))
            refine wpQuiet_nil ?_
            refine NoPanic.normal ?_
            go_wp2_with fail
            go_roundg k
            case measure => have := HJ'.out; omega
            case rel => exact ⟨i + 1, by go_num, Lib.hid (by have := HJ'.out; omega), Lib.hid (by
              have := HR4.out
              rw [← HDd.out, natB_snoc (by have := HDl.out; have := HJ'.out; omega)] at this
              exact this), HB4⟩
          · have hi : i = a.length := by have := HJ.out; omega
            have hr := HR.out
            rw [List.take_of_length_le (by have := HDl.out; omega)] at hr
            obtain ⟨A4, c4, hv4, hc4, hC4⟩ := Kd.R_reads hr
            rw [natB_length] at hv4 hC4
            subst hv4
            have HC4 := Lib.hid hC4
            have z8 : decide ((i : Int) < (a.length : Int)) = false := decide_eq_false (by omega)
            clear hr hc4 hC4
            go_wp2_with fail
            refine (alive_any wr).mono ?_
            rintro e w1 ⟨rfl, hb1⟩
            have HB1 := Lib.hid (HBl.out.trans (hb1.mono HBl.out.size))
            have HC5 := Lib.hid (Kd.C_below HC4.out hb1)
            clear hb1
            go_wp2_with fail
            refine (of_any a A ca w1 (Kd.C_below HA.out HB1.out) HL.out.1).mono ?_
            rintro e w2 ⟨rfl, hb2⟩
            have HB2 := Lib.hid (HB1.out.trans (hb2.mono HB1.out.size))
            have HC6 := Lib.hid (Kd.C_below HC5.out hb2)
            clear hb2
            go_wp2_with fail
            refine (of_any b B cb w2 (Kd.C_below HB.out HB2.out) HL.out.2.1).mono ?_
            rintro e w3 ⟨rfl, hb3⟩
            have HB3 := Lib.hid (HB2.out.trans (hb3.mono HB2.out.size))
            have HC7 := Lib.hid (Kd.C_below HC6.out hb3)
            clear hb3
            have e1 := xor_u32 (ofN a) (ofN b) (ofN_lt HL.out.1) (ofN_lt HL.out.2.1)
            go_wp2_with fail
            refine (of_any c C cc w3 (Kd.C_below HC.out HB3.out) HL.out.2.2).mono ?_
            rintro e w4 ⟨rfl, hb4⟩
            have HB4 := Lib.hid (HB3.out.trans (hb4.mono HB3.out.size))
            have HC8 := Lib.hid (Kd.C_below HC7.out hb4)
            clear hb4
            have e2 := xor_u32 (ofN a ^^^ ofN b) (ofN c) (Nat.xor_lt_two_pow (n := 32) (ofN_lt HL.out.1) (ofN_lt HL.out.2.1)) (ofN_lt HL.out.2.2)
            rw [sum_linear HH.out.2.1 HH.out.2.2] at e2
            rw [show List.zipWith (· ^^^ ·) (List.zipWith (· ^^^ ·) a b) c = D from HD.out.symm] at e2
            generalize ofN a ^^^ ofN b = P at e1 e2
            go_wp2_with fail
            refine (of_any D A4 c4 w4 HC8.out (HD.out ▸ x3_lt HH.out.2.1 HH.out.2.2 HL.out.1 HL.out.2.1 HL.out.2.2)).mono ?_
            rintro e w5 ⟨rfl, hb5⟩
            have HB5 := Lib.hid (HB4.out.trans (hb5.mono HB4.out.size))
            clear hb5
            go_wp2_with fail
            go_ret
            exact ⟨rfl, HB5.out⟩
    · have z1 : decide ((3000 : Int) < (a.length : Int)) = false := decide_eq_false (by omega)
      have z2 : ((a.length : Int) != (b.length : Int)) = false := by simp [h2]
      have z3 : ((b.length : Int) != (c.length : Int)) = true := by rw [bne_iff_ne]; omega
      clear hA hB hC la lb lc h1 h2 h3
      go_enter Try.func9, Try.ntmps9
      go_wp2_with fail
      refine HAl.out.mono ?_
      rintro e w1 ⟨rfl, hb⟩
      go_wp2_with fail
      go_ret
      exact ⟨rfl, hb⟩
  · have z1 : decide ((3000 : Int) < (a.length : Int)) = false := decide_eq_false (by omega)
    have z2 : ((a.length : Int) != (b.length : Int)) = true := by rw [bne_iff_ne]; omega
    clear hA hB hC la lb lc h1 h2
    go_enter Try.func9, Try.ntmps9
    go_wp2_with fail
    refine HAl.out.mono ?_
    rintro e w1 ⟨rfl, hb⟩
    go_wp2_with fail
    go_ret
    exact ⟨rfl, hb⟩
theorem linear_walk (a : List Int) (A : Option Addr) (ca : Nat) (b : List Int) (B : Option Addr) (cb : Nat) (c : List Int) (C : Option Addr) (cc : Nat) (w : World) (hA : (Kd.int .u8).C w A a.length a) (hB : (Kd.int .u8).C w B b.length b) (hC : (Kd.int .u8).C w C c.length c)
    (la : ∀ x ∈ a, 0 ≤ x ∧ x < 256) (lb : ∀ x ∈ b, 0 ≤ x ∧ x < 256) (lc : ∀ x ∈ c, 0 ≤ x ∧ x < 256) :
    Calls Try.prog 9 #[.slice A a.length ca, .slice B b.length cb, .slice C c.length cc] w fun e w' => e = .returned (.bool true) ∧ Below w.heap.size w w' := by
  obtain ⟨m1, e1, k1, l1, _⟩ := C_nat hA la
  obtain ⟨m2, e2, k2, l2, _⟩ := C_nat hB lb
  obtain ⟨m3, e3, k3, l3, _⟩ := C_nat hC lc
  rw [← e1, ← e2, ← e3]
  exact linear_nat m1 m2 m3 A B C ca cb cc w k1 k2 k3 l1 l2 l3
end Go.Proofs.Ytagfplcafeblbaa.C
