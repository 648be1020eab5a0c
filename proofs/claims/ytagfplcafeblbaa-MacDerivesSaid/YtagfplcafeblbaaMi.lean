/-
  mac: the document's Mark, and the law of marks.
-/
import Derived.Test.YtagfplcafeblbaaMh
import Derived.Test.YtagfplcafeblbaaMg
import Derived.Test.YtagfplcafeblbaaNs
namespace Go.Proofs.Ytagfplcafeblbaa.Mc
open Go.RowKit Go.Proofs.Ytagfplcafeblbaa.L Go.Proofs.Ytagfplcafeblbaa.N Go.Proofs.Ytagfplcafeblbaa.H Go.Proofs.YtagfplcafeblbaaW.PrintWords

set_option maxRecDepth 100000 in
set_option maxHeartbeats 1600000 in
theorem rmark_any (key b : List Nat) (A B : Option Addr) (ca cb : Nat) (w : World) (hC : (Kd.int .u8).C w A key.length (nat key)) (hk8 : ∀ x ∈ key, x < 256) (hkl : key.length ≤ 100000) (hB : (Kd.int .u8).C w B b.length (nat b)) (hb8 : ∀ x ∈ b, x < 256) (hbl : b.length ≤ 100000) :
    Calls Try.prog 34 #[.slice A key.length ca, .slice B b.length cb] w fun e w' => ∃ v, e = .returned v ∧ (Kd.int .u8).R 5 w' w.heap.size (fun _ => True) v (nat (markN key b)) ∧ Below w.heap.size w w' := by
  have HC := Lib.hid hC
  have HL := Lib.hid hkl
  have H8 := Lib.hid hk8
  have HBb := Lib.hid hB
  have HBl := Lib.hid hbl
  have HB8 := Lib.hid hb8
  have HQ := Lib.hid (consts_any w)
  clear hC hkl hk8 hB hb8 hbl
  go_enter Try.func34, Try.ntmps34
  go_wp2_with fail
  refine HQ.out.mono ?_
  rintro e w2 ⟨v1, v2, rfl, hk, hs, hb⟩
  obtain ⟨A1, c1, hv1, hc1, hC1⟩ := Kd.R_reads hk
  obtain ⟨A2, c2, hv2, hc2, hC2⟩ := Kd.R_reads hs
  have hv1' : v1 = .slice A1 64 c1 := hv1
  have hv2' : v2 = .slice A2 8 c2 := hv2
  subst hv1'
  subst hv2'
  have HK := Lib.hid (show (Kd.int .u32).C w2 A1 64 (nat kN) from hC1)
  have HS := Lib.hid (show (Kd.int .u32).C w2 A2 8 (nat begN) from hC2)
  have HB := Lib.hid hb
  have HQ2 := Lib.hid (rmac_any key b A1 A2 A B c1 c2 ca cb w2 HK.out HS.out (Kd.C_below HC.out HB.out) H8.out HL.out (Kd.C_below HBb.out HB.out) HB8.out HBl.out)
  clear hk hs hb hv1 hv2 hc1 hc2 hC1 hC2 HQ
  go_wp2_with fail
  refine HQ2.out.mono ?_
  rintro e w3 ⟨v3, rfl, hr3, hb3⟩
  have HR3 := Lib.hid (Kd.R_lower hr3 HB.out.size)
  have HB3 := Lib.hid (HB.out.trans (hb3.mono HB.out.size))
  clear hr3 hb3 HQ2
  go_wp2_with fail
  go_ret
  exact ⟨_, rfl, HR3.out, HB3.out⟩
set_option maxRecDepth 100000 in
set_option maxHeartbeats 1600000 in
theorem begins_any (m f : List Nat) (A B : Option Addr) (n ca cb : Nat) (w : World) (hm : m.length = n) (hA : (Kd.int .u8).C w A n (nat m)) (hB : (Kd.int .u8).C w B f.length (nat f)) (hn : n ≤ 100) (hf : f.length ≤ n) :
    Calls Try.prog 37 #[.slice A n ca, .slice B f.length cb] w fun e w' => e = .returned (.bool (decide (m.take f.length = f))) ∧ Below w.heap.size w w' := by
  obtain ⟨r, hr⟩ : ∃ r, decide (m.take f.length = f) = r := ⟨_, rfl⟩
  have HR := Lib.hid hr
  rw [hr]
  subst hm
  have HA := Lib.hid hA
  have HB := Lib.hid hB
  have HF := Lib.hid (show f.length ≤ m.length ∧ m.length ≤ 100 from ⟨hf, hn⟩)
  have HTx := Lib.hid (fun i (h1 : i < m.length) (h2 : i < f.length) => take_ext (a := m) (b := f) h1 h2)
  have z0 : (m.length : Int) ≤ 100 := by omega
  have z1 : (f.length : Int) ≤ (m.length : Int) := by omega
  clear hr hA hB hn hf
  go_enter Try.func37, Try.ntmps37
  go_wp2_with fail
  go_loopg [5] (f.length + 1) (fun g v5 w' => ∃ i : Nat, v5 = .int .i64 (i : Int) ∧ Hid (i ≤ f.length ∧ f.length < g + i) ∧ Hid (m.take i = f.take i) ∧ Hid (Below w.heap.size w w'))
  case atStart => exact ⟨0, rfl, Lib.hid ⟨by omega, by omega⟩, Lib.hid (by simp), Lib.hid (Below.refl _ _)⟩
  case round =>
    obtain ⟨i, rfl, HJ, HT, HBl⟩ := hrel
    cases gk with
    | zero => have := HJ.out; omega
    | succ k =>
      by_cases hlt : i < f.length
      · have HJ' := Lib.hid (show i < f.length ∧ f.length < (k + 1) + i from ⟨hlt, HJ.out.2⟩)
        have him : i < m.length := by have := HF.out; omega
        obtain ⟨b1, o1, rfl, hb1, hc1⟩ := B_at (Kd.C_below HA.out HBl.out) (by omega)
        obtain ⟨b2, o2, rfl, hb2, hc2⟩ := B_at (Kd.C_below HB.out HBl.out) (by omega)
        have p1 := hc1 i him
        have p2 := hc2 i hlt
        have htx := HTx.out i him hlt
        obtain ⟨x, hx⟩ : ∃ x, m.getD i 0 = x := ⟨_, rfl⟩
        obtain ⟨y, hy⟩ : ∃ x, f.getD i 0 = x := ⟨_, rfl⟩
        rw [hx] at p1 htx
        rw [hy] at p2 htx
        have HTy := Lib.hid htx
        have q1 := gw hb1 p1
        have q2 := gw hb2 p2
        have y0 : (i : Int) < (f.length : Int) := by omega
        have y1 : (0 : Int) ≤ (i : Int) := by omega
        have y2 : (i : Int) < (m.length : Int) := by omega
        have y3 : ¬ (m.length : Int) ≤ (i : Int) := by omega
        have y4 : decide ((m.length : Int) ≤ (i : Int)) = false := decide_eq_false y3
        have y5 : ¬ m.length ≤ i := by omega
        have y6 : decide (m.length ≤ i) = false := decide_eq_false y5
        by_cases he : x = y
        · have HT2 := Lib.hid (HTy.out.2 ⟨HT.out, he⟩)
          subst he
          have t1 : ((x : Int) != (x : Int)) = false := by rw [bne_self_eq_false]
          have t2 : (x != x) = false := by rw [bne_self_eq_false]
          clear hx hy hb1 hb2 hc1 hc2 p1 p2 htx hlt HJ him
          go_wp2_with fail
          refine Q.wp_region_segs none [([0, 1, 2, 3, 4, 5, 6, 7, 8, 9, 10, 11, 12, 13, 14], none)] (by kernel_rfl) (by kernel_rfl) (by kernel_rfl) (by kernel_rfl) ?_
          dsimp only [Q.wpSegs, Q.picks, Q.pick]
          repeat (go_big_quiet_step (fail))
          refine wpQuiet_nil ?_
          refine NoPanic.normal ?_
          go_wp2_with fail
          go_roundg k
          case measure => have := HJ'.out; omega
          case rel => exact ⟨i + 1, by go_num, Lib.hid (by have := HJ'.out; omega), HT2, Lib.hid HBl.out.drew⟩
        · have HRf := Lib.hid (show r = false from by
            rw [← HR.out]
            refine decide_eq_false (fun hh => he ?_)
            have h1 : m.take (i + 1) = f.take (i + 1) := by
              have h2 := congrArg (fun l : List Nat => l.take (i + 1)) hh
              simp only [List.take_take, Nat.min_eq_left (show i + 1 ≤ f.length from hlt)] at h2
              exact h2
            exact (HTy.out.1 h1).2)
          have t1 : ((x : Int) != (y : Int)) = true := by rw [bne_iff_ne]; omega
          have t2 : (x != y) = true := by rw [bne_iff_ne]; exact he
          clear hx hy hb1 hb2 hc1 hc2 p1 p2 htx hlt HJ him he
          go_wp2_with fail
          refine Q.wp_region_segs none [([0, 1, 2, 3, 4, 5, 6, 7, 8, 9, 10, 11, 12, 13, 14], none)] (by kernel_rfl) (by kernel_rfl) (by kernel_rfl) (by kernel_rfl) ?_
          dsimp only [Q.wpSegs, Q.picks, Q.pick]
          repeat (go_big_quiet_step (fail))
          refine wpQuiet_nil ?_
          refine NoPanic.normal ?_
          go_wp2_with fail
          go_ret
          exact ⟨by rw [HRf.out]; rfl, HBl.out.drew⟩
      · obtain rfl : i = f.length := by have := HJ.out; omega
        have HRt := Lib.hid (show r = true from by rw [← HR.out]; exact decide_eq_true (by have := HT.out; rwa [List.take_length] at this))
        clear hlt HJ
        go_wp2_with fail
        go_ret
        exact ⟨by rw [HRt.out]; rfl, HBl.out⟩
theorem gr_cM {B c : Nat} {W w1 : World} (hg : W.grownBy w1 (some c)) (hc : B ≤ c) (hB : B ≤ W.heap.size) : Q.Gr B none W w1 :=
  ⟨hg.os, hg.tape, hg.output, hg.size, fun k hk _ => hg.block k (by omega) (fun he => by injection he; omega)⟩
theorem right_ok {key b mark Z : List Nat} (h : markN key b = Z) (h8 : 8 ≤ mark.length) (h32 : mark.length ≤ 32) : rightN key mark b = decide (Z.take mark.length = mark) := by
  unfold rightN
  rw [h]
  by_cases hh : Z.take mark.length = mark
  · rw [decide_eq_true hh, decide_eq_true ⟨h8, h32, hh⟩]
  · rw [decide_eq_false hh, decide_eq_false (fun x => hh x.2.2)]
theorem right_no {key b mark : List Nat} (h : ¬ (8 ≤ mark.length ∧ mark.length ≤ 32)) : rightN key mark b = false := decide_eq_false (fun x => h ⟨x.1, x.2.1⟩)
theorem ev_keepM {W w1 : World} {B : Nat} {row : Option Nat} {K : Nat → Option Nat → Act → World → Prop} {Q' : Exit → Act → World → Prop} {a : Act} (h : Below W.heap.size W w1) (hB : B ≤ W.heap.size) (k : ∀ w', w' = w1 → K B row a w') :
    Q.EvQ (Q.Gr B row W) (Q.Goes K B row) Q' .normal a w1 := Q.ev_keep h hB (k w1 rfl)
theorem sum_wholeM (b : Nat) (W : World) : (Instr.sliceAt 29 (.pointer (some ⟨b, 0, none⟩)) none none none).run Try.prog W = .ok (.slice (some ⟨b, 0, none⟩) 32 32) W := by kernel_rfl
set_option maxRecDepth 100000 in
set_option maxHeartbeats 12800000 in
theorem marks_nat (key b mark : List Nat) (A B M : Option Addr) (ca cb cm : Nat) (at' : Int) (w : World) (hA : (Kd.int .u8).C w A key.length (nat key)) (hca : key.length ≤ ca) (ha : ∀ x ∈ key, x < 256) (hB : (Kd.int .u8).C w B b.length (nat b)) (hcb : b.length ≤ cb) (hb : ∀ x ∈ b, x < 256) (hM : (Kd.int .u8).C w M mark.length (nat mark)) (hm : ∀ x ∈ mark, x < 256) :
    Calls Try.prog 10 #[.slice A key.length ca, .slice B b.length cb, .slice M mark.length cm, .int .i64 at'] w fun e w' => e = .returned (.bool true) ∧ Below w.heap.size w w' := by
  by_cases hg0 : 150 < key.length
  · have HAl := Lib.hid (alive_any w)
    have tg_key : decide ((150 : Int) < (key.length : Int)) = true := decide_eq_true (by omega)
    clear hA hca ha hB hcb hb hM hm hg0
    go_enter Try.func10, Try.ntmps10
    go_wp2_with fail
    refine HAl.out.mono ?_
    rintro e w1 ⟨rfl, hb⟩
    go_wp2_with fail
    go_ret
    exact ⟨rfl, hb⟩
  have tg_key : decide ((150 : Int) < (key.length : Int)) = false := decide_eq_false (by omega)
  by_cases hg1 : 150 < b.length
  · have HAl := Lib.hid (alive_any w)
    have tg_b : decide ((150 : Int) < (b.length : Int)) = true := decide_eq_true (by omega)
    clear hA hca ha hB hcb hb hM hm hg0 hg1
    go_enter Try.func10, Try.ntmps10
    go_wp2_with fail
    refine HAl.out.mono ?_
    rintro e w1 ⟨rfl, hb⟩
    go_wp2_with fail
    go_ret
    exact ⟨rfl, hb⟩
  have tg_b : decide ((150 : Int) < (b.length : Int)) = false := decide_eq_false (by omega)
  by_cases hg2 : 60 < mark.length
  · have HAl := Lib.hid (alive_any w)
    have tg_mark : decide ((60 : Int) < (mark.length : Int)) = true := decide_eq_true (by omega)
    clear hA hca ha hB hcb hb hM hm hg0 hg1 hg2
    go_enter Try.func10, Try.ntmps10
    go_wp2_with fail
    refine HAl.out.mono ?_
    rintro e w1 ⟨rfl, hb⟩
    go_wp2_with fail
    go_ret
    exact ⟨rfl, hb⟩
  have tg_mark : decide ((60 : Int) < (mark.length : Int)) = false := decide_eq_false (by omega)
  by_cases hg3 : at' < 0
  · have HAl := Lib.hid (alive_any w)
    have tl_at' : decide (at' < 0) = true := decide_eq_true (by omega)
    clear hA hca ha hB hcb hb hM hm hg0 hg1 hg2 hg3
    go_enter Try.func10, Try.ntmps10
    go_wp2_with fail
    refine HAl.out.mono ?_
    rintro e w1 ⟨rfl, hb⟩
    go_wp2_with fail
    go_ret
    exact ⟨rfl, hb⟩
  have tl_at' : decide (at' < 0) = false := decide_eq_false (by omega)
  by_cases hg4 : (b.length : Int) < at'
  · have HAl := Lib.hid (alive_any w)
    have ta : decide ((b.length : Int) < at') = true := decide_eq_true (by omega)
    clear hA hca ha hB hcb hb hM hm hg0 hg1 hg2 hg3 hg4
    go_enter Try.func10, Try.ntmps10
    go_wp2_with fail
    refine HAl.out.mono ?_
    rintro e w1 ⟨rfl, hb⟩
    go_wp2_with fail
    go_ret
    exact ⟨rfl, hb⟩
  have ta : decide ((b.length : Int) < at') = false := decide_eq_false (by omega)
  obtain ⟨i, rfl⟩ : ∃ i : Nat, at' = (i : Int) := ⟨at'.toNat, by omega⟩
  have hL : key.length ≤ 150 ∧ b.length ≤ 150 ∧ i ≤ b.length ∧ mark.length ≤ 60 := ⟨by omega, by omega, by omega, by omega⟩
  obtain ⟨hct, hCt⟩ := cutT B b.length cb (i : Int) i rfl hL.2.2.1 hcb
  obtain ⟨A3, c3, hcf, hc3, hCf⟩ := cutF B b.length cb (i : Int) i rfl hL.2.2.1 hcb
  have htl : (b.take i).length = i := by rw [List.length_take]; exact Nat.min_eq_left hL.2.2.1
  have hdl : (b.drop i).length = b.length - i := List.length_drop
  have HA := Lib.hid hA
  have HCa := Lib.hid hca
  have Ha := Lib.hid ha
  have HB := Lib.hid hB
  have HCb := Lib.hid hcb
  have Hb := Lib.hid hb
  have HM := Lib.hid hM
  have Hm := Lib.hid hm
  have HL := Lib.hid hL
  have HCt := Lib.hid hCt
  have HCf := Lib.hid hCf
  have HC3 := Lib.hid hc3
  have HTl := Lib.hid htl
  have HDl := Lib.hid hdl
  have z3 : (0 : Int) ≤ (i : Int) := by omega
  have z4 : (i : Int) ≤ (b.length : Int) := by omega
  have tn1 : decide (b.length < i) = false := decide_eq_false (by omega)
  obtain ⟨Z, hZ⟩ : ∃ Z, markN key b = Z := ⟨_, rfl⟩
  have HZl := Lib.hid (show Z.length = 32 from by rw [← hZ]; exact markN_len key b)
  have HZt := Lib.hid (show ∀ x ∈ Z, x < 256 from by rw [← hZ]; exact markN_lt key b)
  have HZ := Lib.hid hZ
  clear hA hca ha hB hcb hb hM hm hL hCt hCf hc3 htl hdl hg0 hg1 hg2 hg3 hg4 hZ
  go_enter Try.func10, Try.ntmps10
  go_wp2_with fail
  refine Q.wp_region_tr none (.two [0, 1, 2, 3, 4, 5, 6] 7 (.two [] 8 (.ev [] 9 (.ev [] 10 (.done []))) 9 (.ev [] 8 (.ev [] 10 (.done [])))) 9 (.ev [] 7 (.ev [] 8 (.ev [] 10 (.done []))))) (by kernel_rfl) (by kernel_rfl) (by kernel_rfl) (by kernel_rfl) ?_
  dsimp only [Q.wpTr, Q.picks, Q.pick]
  repeat (go_big_quiet_step (fail))
  refine wpQuiet_nil ?_
  have HB0 := Lib.hid (show Below w.heap.size w w.drew from stay0 w)
  refine ⟨?_, ?_⟩
  · go_wp2_with fail
    refine ev_keepM ((Below.refl _ _).alloc (Nat.le_refl _) _) HB0.out.size fun W1 hWn => ?_
    have HR1 := Lib.hid (show RB W1 (some ⟨w.heap.size, 0, none⟩) [b.take i, b.drop i] from by rw [hWn]; exact RB_two (w := w.drew) (c1 := cb) (c2 := c3) 22 HTl.out HDl.out (HCt.out _ _ (Kd.C_below HB.out HB0.out)) (take_lt _ Hb.out) (by have := HL.out; have := HCb.out; omega) (HCf.out _ _ (Kd.C_below HB.out HB0.out)) (drop_lt _ Hb.out) HC3.out)
    have HBn := Lib.hid (show Below w.drew.heap.size w.drew W1 from by rw [hWn]; exact (Below.refl _ _).alloc (Nat.le_refl _) _)
    clear hWn
    have HBa1 := Lib.hid (HB0.out.trans (HBn.out.mono HB0.out.size))
    clear HBn
    refine wpQuiet_nil ?_
    refine ⟨?_, ?_⟩
    · have hq := mark_any key [b.take i, b.drop i] A (some ⟨w.heap.size, 0, none⟩) ca 2 W1 (Kd.C_below HA.out HBa1.out) HCa.out Ha.out (by have := HL.out; omega) HR1.out (by simp) (by have := HL.out; rw [take_drop_flat]; omega)
      rw [take_drop_flat, HZ.out] at hq
      have HQ := Lib.hid hq
      clear hq
      go_wp2_with (go_at_call 33; refine HQ.out.mono ?_; rintro e W2 ⟨rfl, hbn⟩; (have HBn := Lib.hid hbn); clear hbn)
      clear HQ
      refine Q.ev_keep HBn.out HBa1.out.size ?_
      have HRB2 := Lib.hid (HR1.out.below HBn.out)
      have HBa2 := Lib.hid (HBa1.out.trans (HBn.out.mono HBa1.out.size))
      clear HBn
      refine wpQuiet_nil ?_
      go_wp2_with fail
      refine ev_keepM ((Below.refl _ _).alloc (Nat.le_refl _) _) HBa2.out.size fun W3 hWn => ?_
      have H9 := Lib.hid (show AB .u8 tSum W2.heap.size z32 W3 from by rw [hWn]; exact AB.mk W2 .u8 tSum z32)
      have H9b := Lib.hid (show w.heap.size ≤ W2.heap.size from HBa2.out.size)
      have HBn := Lib.hid (show Below W2.heap.size W2 W3 from by rw [hWn]; exact (Below.refl _ _).alloc (Nat.le_refl _) _)
      clear hWn
      have HRB3 := Lib.hid (HRB2.out.below HBn.out)
      have HBa3 := Lib.hid (HBa2.out.trans (HBn.out.mono HBa2.out.size))
      clear HBn
      refine wpQuiet_nil ?_
      go_wp2_with (refine store_ab .u8 (W2.heap.size) z32 Z rfl rfl rfl rfl rfl H9.out (by rw [HZl.out]; exact info_sum) (by rw [HZl.out]; rfl) ?_; intro W4 h10 hg10; (have H10 := Lib.hid h10); (have HG10 := Lib.hid hg10); clear h10 hg10)
      refine Q.ev_app (gr_cM HG10.out H9b.out HBa3.out.size) (Nat.le_refl _) (Q.NewRow.none_ _ _) ?_
      have HBz := Lib.hid (below_grown HBa3.out HBa3.out.size HG10.out H9b.out)
      clear HG10 H9b H9
      obtain ⟨b9, hb9e⟩ : ∃ b, W2.heap.size = b := ⟨_, rfl⟩
      rw [hb9e] at H10 ⊢
      clear hb9e
      refine wpQuiet_nil ?_
      refine NoPanic.normal ?_
      refine exit_at fun w3 hw3 => ?_
      have HBd := Lib.hid (show Below w.heap.size w w3 from by rw [hw3]; exact HBz.out)
      have H9d := Lib.hid (show AB .u8 tSum b9 Z w3 from by rw [hw3]; exact H10.out)
      clear hw3
      go_wp2_with fail
      have hwh := sum_wholeM b9
      have q1 : ∀ x : Q.GW w3.drew w3.heap.size none, (convert 22 9 (.slice (some ⟨b9, 0, none⟩) 32 32)).run Try.prog x.w = .ok (.string (strOfNums (nat Z))) x.w := fun x => strS HZl.out (by have := rowK ((H9d.out.below H9d.out.lt (stay0 w3)).below H9d.out.lt (Q.GW.below (W := w3.drew) x)) (show Z.length ≤ maxLen by rw [HZl.out]; decide); rwa [HZl.out] at this)
      refine Q.wp_region_segs none [([0, 1, 2, 3], some 4), ([5, 6, 7, 8, 9, 11, 12, 13, 14, 15], some 10), ([16, 17], none)] (by kernel_rfl) (by kernel_rfl) (by kernel_rfl) (by kernel_rfl) ?_
      dsimp only [Q.wpSegs, Q.picks, Q.pick]
      repeat (go_big_quiet_step (fail))
      refine wpQuiet_nil ?_
      clear q1 hwh
      have hq := rmark_any key b A B ca cb w3.drew (Kd.C_below HA.out HBd.out.drew) Ha.out (by have := HL.out; omega) (Kd.C_below HB.out HBd.out.drew) Hb.out (by have := HL.out; omega)
      rw [HZ.out] at hq
      have HQ0 := Lib.hid hq
      clear hq
      go_wp2_with fail
      refine HQ0.out.mono ?_
      rintro e w5 ⟨v5, rfl, hr5, hb5⟩
      obtain ⟨A5, c5, hv5, hc5, hC5⟩ := Kd.R_reads hr5
      rw [nat_length, HZl.out] at hv5 hC5
      subst hv5
      have HC5 := Lib.hid hC5
      have HBf := Lib.hid (HBd.out.drew.trans (hb5.mono HBd.out.size))
      have H9f := Lib.hid ((H9d.out.below H9d.out.lt (stay0 w3)).below H9d.out.lt hb5)
      have Hev5 := Lib.hid hb5
      clear hr5 hb5 hc5 hC5 HQ0 HBd H9d
      go_wp2_with fail
      refine Q.ev_done Hev5.out (Nat.le_refl _) ?_
      clear Hev5
      have HQ := Lib.hid (equal_any key b A B ca cb w5 (Kd.C_below HA.out HBf.out) (Kd.C_below HB.out HBf.out) Ha.out Hb.out)
      have q3 : ∀ x : Q.GW w5 w5.heap.size none, (convert 22 9 (.slice A key.length ca)).run Try.prog x.w = .ok (.string (strOfNums (nat key))) x.w := fun x => strS rfl (Kd.C_below (Kd.C_below HA.out HBf.out) x.below)
      have q4 : ∀ x : Q.GW w5 w5.heap.size none, (convert 22 9 (.slice B b.length cb)).run Try.prog x.w = .ok (.string (strOfNums (nat b))) x.w := fun x => strS rfl (Kd.C_below (Kd.C_below HB.out HBf.out) x.below)
      have q5 : ∀ x : Q.GW w5 w5.heap.size none, (convert 22 9 (.slice A5 32 c5)).run Try.prog x.w = .ok (.string (strOfNums (nat Z))) x.w := fun x => strS HZl.out (Kd.C_below HC5.out x.below)
      by_cases hkb : key = b
      · rw [decide_eq_true hkb] at HQ
        have q6 : strOfNums (nat key) = strOfNums (nat b) := by rw [hkb]
        clear hkb
        rw [q6] at q3
        clear q6
        repeat (go_big_quiet_step (fail))
        refine wpQuiet_nil ?_
        go_wp2_with fail
        refine HQ.out.mono ?_
        rintro e w6 ⟨rfl, hb6⟩
        have HBh0 := Lib.hid (HBf.out.trans (hb6.mono HBf.out.size))
        have H9h0 := Lib.hid (H9f.out.below H9f.out.lt hb6)
        have Hev := Lib.hid hb6
        clear hb6 HQ HBf H9f
        go_wp2_with fail
        refine Q.ev_done Hev.out (Nat.le_refl _) ?_
        repeat (go_big_quiet_step (fail))
        refine wpQuiet_nil ?_
        clear q3 q4 q5 Hev
        refine NoPanic.normal ?_
        refine exit_at fun w7 hw7 => ?_
        have HBh := Lib.hid (show Below w.heap.size w w7 from by rw [hw7]; exact HBh0.out)
        have H9h := Lib.hid (show AB .u8 tSum b9 Z w7 from by rw [hw7]; exact H9h0.out)
        clear hw7 HBh0 H9h0
        have HQ := Lib.hid (alive_any w7)
        go_wp2_with fail
        refine HQ.out.mono ?_
        rintro e w8 ⟨rfl, hb8⟩
        have HBi := Lib.hid (HBh.out.trans (hb8.mono HBh.out.size))
        have H9i := Lib.hid (H9h.out.below H9h.out.lt hb8)
        clear hb8 HQ HBh H9h
        go_wp2_with fail
        refine calls_at fun W9 hW9 => ?_
        have hb9 : Below w8.heap.size w8 W9 := by rw [hW9]; exact (Below.refl _ _).alloc (Nat.le_refl _) _
        have hrb := RB_one (l := b) (A := B) (c := cb) 22 (w := w8) (Kd.C_below HB.out HBi.out) Hb.out HCb.out
        rw [← hW9] at hrb
        have HBj := Lib.hid (HBi.out.trans (hb9.mono HBi.out.size))
        have H9j := Lib.hid (H9i.out.below H9i.out.lt hb9)
        have hq := right_any key mark [b] A M (some ⟨w8.heap.size, 0, none⟩) ca cm 1 W9 (Kd.C_below HA.out HBj.out) HCa.out Ha.out (by have := HL.out; omega) (Kd.C_below HM.out HBj.out) Hm.out hrb (by simp) (by have := HL.out; simp; omega)
        rw [show ([b] : List (List Nat)).flatten = b from by simp] at hq
        by_cases h8 : 8 ≤ mark.length
        · by_cases h32 : mark.length ≤ 32
          · rw [right_ok HZ.out h8 h32] at hq
            obtain ⟨rr, hrr⟩ : ∃ r, decide (Z.take mark.length = mark) = r := ⟨_, rfl⟩
            have u1 : decide ((8 : Int) ≤ (mark.length : Int)) = true := decide_eq_true (by omega)
            have u2 : decide ((mark.length : Int) ≤ 32) = true := decide_eq_true (by omega)
            have u3 : decide (8 ≤ mark.length) = true := decide_eq_true h8
            have u4 : decide (mark.length ≤ 32) = true := decide_eq_true h32
            have HQ := Lib.hid hq
            clear hW9 hb9 hrb hq HBi H9i
            refine HQ.out.mono ?_
            rintro e w10 ⟨rfl, hb10⟩
            have HBk := Lib.hid (HBj.out.trans (hb10.mono HBj.out.size))
            have H9k := Lib.hid (H9j.out.below H9j.out.lt hb10)
            clear hb10 HQ HBj H9j
            have hrow := rowK H9k.out (show Z.length ≤ maxLen by rw [HZl.out]; decide)
            rw [HZl.out] at hrow
            have hq2 := begins_any Z mark (some ⟨b9, 0, none⟩) M 32 32 cm w10 HZl.out hrow (Kd.C_below HM.out HBk.out) (by decide) (by omega)
            have HQ2 := Lib.hid hq2
            have hwh := sum_wholeM b9
            clear hrow hq2
            go_wp2_with fail
            refine HQ2.out.mono ?_
            rintro e w11 ⟨rfl, hb11⟩
            have HBl := Lib.hid (HBk.out.trans (hb11.mono HBk.out.size))
            clear hb11 HQ2 hwh
            go_wp2_with fail
            go_ret
            exact ⟨rfl, HBl.out⟩
          · rw [right_no (fun hh => h32 hh.2)] at hq
            have u1 : decide ((8 : Int) ≤ (mark.length : Int)) = true := decide_eq_true (by omega)
            have u2 : decide ((mark.length : Int) ≤ 32) = false := decide_eq_false (by omega)
            have u3 : decide (8 ≤ mark.length) = true := decide_eq_true h8
            have u4 : decide (mark.length ≤ 32) = false := decide_eq_false h32
            have HQ := Lib.hid hq
            clear hW9 hb9 hrb hq HBi H9i
            refine HQ.out.mono ?_
            rintro e w10 ⟨rfl, hb10⟩
            have HBk := Lib.hid (HBj.out.trans (hb10.mono HBj.out.size))
            have H9k := Lib.hid (H9j.out.below H9j.out.lt hb10)
            clear hb10 HQ HBj H9j
            go_wp2_with fail
            go_ret
            exact ⟨rfl, HBk.out⟩
        · rw [right_no (fun hh => h8 hh.1)] at hq
          have u1 : decide ((8 : Int) ≤ (mark.length : Int)) = false := decide_eq_false (by omega)
          have u3 : decide (8 ≤ mark.length) = false := decide_eq_false h8
          have HQ := Lib.hid hq
          clear hW9 hb9 hrb hq HBi H9i
          refine HQ.out.mono ?_
          rintro e w10 ⟨rfl, hb10⟩
          have HBk := Lib.hid (HBj.out.trans (hb10.mono HBj.out.size))
          have H9k := Lib.hid (H9j.out.below H9j.out.lt hb10)
          clear hb10 HQ HBj H9j
          go_wp2_with fail
          go_ret
          exact ⟨rfl, HBk.out⟩
      · rw [decide_eq_false hkb] at HQ
        obtain ⟨v1, v2⟩ := str_neS Ha.out Hb.out hkb
        clear hkb
        repeat (go_big_quiet_step (fail))
        refine wpQuiet_nil ?_
        go_wp2_with fail
        refine HQ.out.mono ?_
        rintro e w6 ⟨rfl, hb6⟩
        have HBh0 := Lib.hid (HBf.out.trans (hb6.mono HBf.out.size))
        have H9h0 := Lib.hid (H9f.out.below H9f.out.lt hb6)
        have Hev := Lib.hid hb6
        clear hb6 HQ HBf H9f
        go_wp2_with fail
        refine Q.ev_done Hev.out (Nat.le_refl _) ?_
        repeat (go_big_quiet_step (fail))
        refine wpQuiet_nil ?_
        clear q3 q4 q5 Hev
        refine NoPanic.normal ?_
        refine exit_at fun w7 hw7 => ?_
        have HBh := Lib.hid (show Below w.heap.size w w7 from by rw [hw7]; exact HBh0.out)
        have H9h := Lib.hid (show AB .u8 tSum b9 Z w7 from by rw [hw7]; exact H9h0.out)
        clear hw7 HBh0 H9h0
        have HQ := Lib.hid (alive_any w7)
        go_wp2_with fail
        refine HQ.out.mono ?_
        rintro e w8 ⟨rfl, hb8⟩
        have HBi := Lib.hid (HBh.out.trans (hb8.mono HBh.out.size))
        have H9i := Lib.hid (H9h.out.below H9h.out.lt hb8)
        clear hb8 HQ HBh H9h
        go_wp2_with fail
        refine calls_at fun W9 hW9 => ?_
        have hb9 : Below w8.heap.size w8 W9 := by rw [hW9]; exact (Below.refl _ _).alloc (Nat.le_refl _) _
        have hrb := RB_one (l := b) (A := B) (c := cb) 22 (w := w8) (Kd.C_below HB.out HBi.out) Hb.out HCb.out
        rw [← hW9] at hrb
        have HBj := Lib.hid (HBi.out.trans (hb9.mono HBi.out.size))
        have H9j := Lib.hid (H9i.out.below H9i.out.lt hb9)
        have hq := right_any key mark [b] A M (some ⟨w8.heap.size, 0, none⟩) ca cm 1 W9 (Kd.C_below HA.out HBj.out) HCa.out Ha.out (by have := HL.out; omega) (Kd.C_below HM.out HBj.out) Hm.out hrb (by simp) (by have := HL.out; simp; omega)
        rw [show ([b] : List (List Nat)).flatten = b from by simp] at hq
        by_cases h8 : 8 ≤ mark.length
        · by_cases h32 : mark.length ≤ 32
          · rw [right_ok HZ.out h8 h32] at hq
            obtain ⟨rr, hrr⟩ : ∃ r, decide (Z.take mark.length = mark) = r := ⟨_, rfl⟩
            have u1 : decide ((8 : Int) ≤ (mark.length : Int)) = true := decide_eq_true (by omega)
            have u2 : decide ((mark.length : Int) ≤ 32) = true := decide_eq_true (by omega)
            have u3 : decide (8 ≤ mark.length) = true := decide_eq_true h8
            have u4 : decide (mark.length ≤ 32) = true := decide_eq_true h32
            have HQ := Lib.hid hq
            clear hW9 hb9 hrb hq HBi H9i
            refine HQ.out.mono ?_
            rintro e w10 ⟨rfl, hb10⟩
            have HBk := Lib.hid (HBj.out.trans (hb10.mono HBj.out.size))
            have H9k := Lib.hid (H9j.out.below H9j.out.lt hb10)
            clear hb10 HQ HBj H9j
            have hrow := rowK H9k.out (show Z.length ≤ maxLen by rw [HZl.out]; decide)
            rw [HZl.out] at hrow
            have hq2 := begins_any Z mark (some ⟨b9, 0, none⟩) M 32 32 cm w10 HZl.out hrow (Kd.C_below HM.out HBk.out) (by decide) (by omega)
            have HQ2 := Lib.hid hq2
            have hwh := sum_wholeM b9
            clear hrow hq2
            go_wp2_with fail
            refine HQ2.out.mono ?_
            rintro e w11 ⟨rfl, hb11⟩
            have HBl := Lib.hid (HBk.out.trans (hb11.mono HBk.out.size))
            clear hb11 HQ2 hwh
            go_wp2_with fail
            go_ret
            exact ⟨rfl, HBl.out⟩
          · rw [right_no (fun hh => h32 hh.2)] at hq
            have u1 : decide ((8 : Int) ≤ (mark.length : Int)) = true := decide_eq_true (by omega)
            have u2 : decide ((mark.length : Int) ≤ 32) = false := decide_eq_false (by omega)
            have u3 : decide (8 ≤ mark.length) = true := decide_eq_true h8
            have u4 : decide (mark.length ≤ 32) = false := decide_eq_false h32
            have HQ := Lib.hid hq
            clear hW9 hb9 hrb hq HBi H9i
            refine HQ.out.mono ?_
            rintro e w10 ⟨rfl, hb10⟩
            have HBk := Lib.hid (HBj.out.trans (hb10.mono HBj.out.size))
            have H9k := Lib.hid (H9j.out.below H9j.out.lt hb10)
            clear hb10 HQ HBj H9j
            go_wp2_with fail
            go_ret
            exact ⟨rfl, HBk.out⟩
        · rw [right_no (fun hh => h8 hh.1)] at hq
          have u1 : decide ((8 : Int) ≤ (mark.length : Int)) = false := decide_eq_false (by omega)
          have u3 : decide (8 ≤ mark.length) = false := decide_eq_false h8
          have HQ := Lib.hid hq
          clear hW9 hb9 hrb hq HBi H9i
          refine HQ.out.mono ?_
          rintro e w10 ⟨rfl, hb10⟩
          have HBk := Lib.hid (HBj.out.trans (hb10.mono HBj.out.size))
          have H9k := Lib.hid (H9j.out.below H9j.out.lt hb10)
          clear hb10 HQ HBj H9j
          go_wp2_with fail
          go_ret
          exact ⟨rfl, HBk.out⟩
    · go_wp2_with fail
      refine ev_keepM ((Below.refl _ _).alloc (Nat.le_refl _) _) HBa1.out.size fun W5 hWn => ?_
      have H9 := Lib.hid (show AB .u8 tSum W1.heap.size z32 W5 from by rw [hWn]; exact AB.mk W1 .u8 tSum z32)
      have H9b := Lib.hid (show w.heap.size ≤ W1.heap.size from HBa1.out.size)
      have HBn := Lib.hid (show Below W1.heap.size W1 W5 from by rw [hWn]; exact (Below.refl _ _).alloc (Nat.le_refl _) _)
      clear hWn
      have HRB5 := Lib.hid (HR1.out.below HBn.out)
      have HBa5 := Lib.hid (HBa1.out.trans (HBn.out.mono HBa1.out.size))
      clear HBn
      refine wpQuiet_nil ?_
      have hq := mark_any key [b.take i, b.drop i] A (some ⟨w.heap.size, 0, none⟩) ca 2 W5 (Kd.C_below HA.out HBa5.out) HCa.out Ha.out (by have := HL.out; omega) HRB5.out (by simp) (by have := HL.out; rw [take_drop_flat]; omega)
      rw [take_drop_flat, HZ.out] at hq
      have HQ := Lib.hid hq
      clear hq
      go_wp2_with (go_at_call 33; refine HQ.out.mono ?_; rintro e W6 ⟨rfl, hbn⟩; (have HBn := Lib.hid hbn); clear hbn)
      clear HQ
      refine Q.ev_keep HBn.out HBa5.out.size ?_
      have HRB6 := Lib.hid (HRB5.out.below HBn.out)
      have HAB6 := Lib.hid (H9.out.below H9.out.lt HBn.out)
      have HBa6 := Lib.hid (HBa5.out.trans (HBn.out.mono HBa5.out.size))
      clear HBn
      refine wpQuiet_nil ?_
      go_wp2_with (refine store_ab .u8 (W1.heap.size) z32 Z rfl rfl rfl rfl rfl HAB6.out (by rw [HZl.out]; exact info_sum) (by rw [HZl.out]; rfl) ?_; intro W7 h10 hg10; (have H10 := Lib.hid h10); (have HG10 := Lib.hid hg10); clear h10 hg10)
      refine Q.ev_app (gr_cM HG10.out H9b.out HBa6.out.size) (Nat.le_refl _) (Q.NewRow.none_ _ _) ?_
      have HBz := Lib.hid (below_grown HBa6.out HBa6.out.size HG10.out H9b.out)
      clear HG10 H9b HAB6
      obtain ⟨b9, hb9e⟩ : ∃ b, W1.heap.size = b := ⟨_, rfl⟩
      rw [hb9e] at H10 ⊢
      clear hb9e
      refine wpQuiet_nil ?_
      refine NoPanic.normal ?_
      refine exit_at fun w3 hw3 => ?_
      have HBd := Lib.hid (show Below w.heap.size w w3 from by rw [hw3]; exact HBz.out)
      have H9d := Lib.hid (show AB .u8 tSum b9 Z w3 from by rw [hw3]; exact H10.out)
      clear hw3
      go_wp2_with fail
      have hwh := sum_wholeM b9
      have q1 : ∀ x : Q.GW w3.drew w3.heap.size none, (convert 22 9 (.slice (some ⟨b9, 0, none⟩) 32 32)).run Try.prog x.w = .ok (.string (strOfNums (nat Z))) x.w := fun x => strS HZl.out (by have := rowK ((H9d.out.below H9d.out.lt (stay0 w3)).below H9d.out.lt (Q.GW.below (W := w3.drew) x)) (show Z.length ≤ maxLen by rw [HZl.out]; decide); rwa [HZl.out] at this)
      refine Q.wp_region_segs none [([0, 1, 2, 3], some 4), ([5, 6, 7, 8, 9, 11, 12, 13, 14, 15], some 10), ([16, 17], none)] (by kernel_rfl) (by kernel_rfl) (by kernel_rfl) (by kernel_rfl) ?_
      dsimp only [Q.wpSegs, Q.picks, Q.pick]
      repeat (go_big_quiet_step (fail))
      refine wpQuiet_nil ?_
      clear q1 hwh
      have hq := rmark_any key b A B ca cb w3.drew (Kd.C_below HA.out HBd.out.drew) Ha.out (by have := HL.out; omega) (Kd.C_below HB.out HBd.out.drew) Hb.out (by have := HL.out; omega)
      rw [HZ.out] at hq
      have HQ0 := Lib.hid hq
      clear hq
      go_wp2_with fail
      refine HQ0.out.mono ?_
      rintro e w5 ⟨v5, rfl, hr5, hb5⟩
      obtain ⟨A5, c5, hv5, hc5, hC5⟩ := Kd.R_reads hr5
      rw [nat_length, HZl.out] at hv5 hC5
      subst hv5
      have HC5 := Lib.hid hC5
      have HBf := Lib.hid (HBd.out.drew.trans (hb5.mono HBd.out.size))
      have H9f := Lib.hid ((H9d.out.below H9d.out.lt (stay0 w3)).below H9d.out.lt hb5)
      have Hev5 := Lib.hid hb5
      clear hr5 hb5 hc5 hC5 HQ0 HBd H9d
      go_wp2_with fail
      refine Q.ev_done Hev5.out (Nat.le_refl _) ?_
      clear Hev5
      have HQ := Lib.hid (equal_any key b A B ca cb w5 (Kd.C_below HA.out HBf.out) (Kd.C_below HB.out HBf.out) Ha.out Hb.out)
      have q3 : ∀ x : Q.GW w5 w5.heap.size none, (convert 22 9 (.slice A key.length ca)).run Try.prog x.w = .ok (.string (strOfNums (nat key))) x.w := fun x => strS rfl (Kd.C_below (Kd.C_below HA.out HBf.out) x.below)
      have q4 : ∀ x : Q.GW w5 w5.heap.size none, (convert 22 9 (.slice B b.length cb)).run Try.prog x.w = .ok (.string (strOfNums (nat b))) x.w := fun x => strS rfl (Kd.C_below (Kd.C_below HB.out HBf.out) x.below)
      have q5 : ∀ x : Q.GW w5 w5.heap.size none, (convert 22 9 (.slice A5 32 c5)).run Try.prog x.w = .ok (.string (strOfNums (nat Z))) x.w := fun x => strS HZl.out (Kd.C_below HC5.out x.below)
      by_cases hkb : key = b
      · rw [decide_eq_true hkb] at HQ
        have q6 : strOfNums (nat key) = strOfNums (nat b) := by rw [hkb]
        clear hkb
        rw [q6] at q3
        clear q6
        repeat (go_big_quiet_step (fail))
        refine wpQuiet_nil ?_
        go_wp2_with fail
        refine HQ.out.mono ?_
        rintro e w6 ⟨rfl, hb6⟩
        have HBh0 := Lib.hid (HBf.out.trans (hb6.mono HBf.out.size))
        have H9h0 := Lib.hid (H9f.out.below H9f.out.lt hb6)
        have Hev := Lib.hid hb6
        clear hb6 HQ HBf H9f
        go_wp2_with fail
        refine Q.ev_done Hev.out (Nat.le_refl _) ?_
        repeat (go_big_quiet_step (fail))
        refine wpQuiet_nil ?_
        clear q3 q4 q5 Hev
        refine NoPanic.normal ?_
        refine exit_at fun w7 hw7 => ?_
        have HBh := Lib.hid (show Below w.heap.size w w7 from by rw [hw7]; exact HBh0.out)
        have H9h := Lib.hid (show AB .u8 tSum b9 Z w7 from by rw [hw7]; exact H9h0.out)
        clear hw7 HBh0 H9h0
        have HQ := Lib.hid (alive_any w7)
        go_wp2_with fail
        refine HQ.out.mono ?_
        rintro e w8 ⟨rfl, hb8⟩
        have HBi := Lib.hid (HBh.out.trans (hb8.mono HBh.out.size))
        have H9i := Lib.hid (H9h.out.below H9h.out.lt hb8)
        clear hb8 HQ HBh H9h
        go_wp2_with fail
        refine calls_at fun W9 hW9 => ?_
        have hb9 : Below w8.heap.size w8 W9 := by rw [hW9]; exact (Below.refl _ _).alloc (Nat.le_refl _) _
        have hrb := RB_one (l := b) (A := B) (c := cb) 22 (w := w8) (Kd.C_below HB.out HBi.out) Hb.out HCb.out
        rw [← hW9] at hrb
        have HBj := Lib.hid (HBi.out.trans (hb9.mono HBi.out.size))
        have H9j := Lib.hid (H9i.out.below H9i.out.lt hb9)
        have hq := right_any key mark [b] A M (some ⟨w8.heap.size, 0, none⟩) ca cm 1 W9 (Kd.C_below HA.out HBj.out) HCa.out Ha.out (by have := HL.out; omega) (Kd.C_below HM.out HBj.out) Hm.out hrb (by simp) (by have := HL.out; simp; omega)
        rw [show ([b] : List (List Nat)).flatten = b from by simp] at hq
        by_cases h8 : 8 ≤ mark.length
        · by_cases h32 : mark.length ≤ 32
          · rw [right_ok HZ.out h8 h32] at hq
            obtain ⟨rr, hrr⟩ : ∃ r, decide (Z.take mark.length = mark) = r := ⟨_, rfl⟩
            have u1 : decide ((8 : Int) ≤ (mark.length : Int)) = true := decide_eq_true (by omega)
            have u2 : decide ((mark.length : Int) ≤ 32) = true := decide_eq_true (by omega)
            have u3 : decide (8 ≤ mark.length) = true := decide_eq_true h8
            have u4 : decide (mark.length ≤ 32) = true := decide_eq_true h32
            have HQ := Lib.hid hq
            clear hW9 hb9 hrb hq HBi H9i
            refine HQ.out.mono ?_
            rintro e w10 ⟨rfl, hb10⟩
            have HBk := Lib.hid (HBj.out.trans (hb10.mono HBj.out.size))
            have H9k := Lib.hid (H9j.out.below H9j.out.lt hb10)
            clear hb10 HQ HBj H9j
            have hrow := rowK H9k.out (show Z.length ≤ maxLen by rw [HZl.out]; decide)
            rw [HZl.out] at hrow
            have hq2 := begins_any Z mark (some ⟨b9, 0, none⟩) M 32 32 cm w10 HZl.out hrow (Kd.C_below HM.out HBk.out) (by decide) (by omega)
            have HQ2 := Lib.hid hq2
            have hwh := sum_wholeM b9
            clear hrow hq2
            go_wp2_with fail
            refine HQ2.out.mono ?_
            rintro e w11 ⟨rfl, hb11⟩
            have HBl := Lib.hid (HBk.out.trans (hb11.mono HBk.out.size))
            clear hb11 HQ2 hwh
            go_wp2_with fail
            go_ret
            exact ⟨rfl, HBl.out⟩
          · rw [right_no (fun hh => h32 hh.2)] at hq
            have u1 : decide ((8 : Int) ≤ (mark.length : Int)) = true := decide_eq_true (by omega)
            have u2 : decide ((mark.length : Int) ≤ 32) = false := decide_eq_false (by omega)
            have u3 : decide (8 ≤ mark.length) = true := decide_eq_true h8
            have u4 : decide (mark.length ≤ 32) = false := decide_eq_false h32
            have HQ := Lib.hid hq
            clear hW9 hb9 hrb hq HBi H9i
            refine HQ.out.mono ?_
            rintro e w10 ⟨rfl, hb10⟩
            have HBk := Lib.hid (HBj.out.trans (hb10.mono HBj.out.size))
            have H9k := Lib.hid (H9j.out.below H9j.out.lt hb10)
            clear hb10 HQ HBj H9j
            go_wp2_with fail
            go_ret
            exact ⟨rfl, HBk.out⟩
        · rw [right_no (fun hh => h8 hh.1)] at hq
          have u1 : decide ((8 : Int) ≤ (mark.length : Int)) = false := decide_eq_false (by omega)
          have u3 : decide (8 ≤ mark.length) = false := decide_eq_false h8
          have HQ := Lib.hid hq
          clear hW9 hb9 hrb hq HBi H9i
          refine HQ.out.mono ?_
          rintro e w10 ⟨rfl, hb10⟩
          have HBk := Lib.hid (HBj.out.trans (hb10.mono HBj.out.size))
          have H9k := Lib.hid (H9j.out.below H9j.out.lt hb10)
          clear hb10 HQ HBj H9j
          go_wp2_with fail
          go_ret
          exact ⟨rfl, HBk.out⟩
      · rw [decide_eq_false hkb] at HQ
        obtain ⟨v1, v2⟩ := str_neS Ha.out Hb.out hkb
        clear hkb
        repeat (go_big_quiet_step (fail))
        refine wpQuiet_nil ?_
        go_wp2_with fail
        refine HQ.out.mono ?_
        rintro e w6 ⟨rfl, hb6⟩
        have HBh0 := Lib.hid (HBf.out.trans (hb6.mono HBf.out.size))
        have H9h0 := Lib.hid (H9f.out.below H9f.out.lt hb6)
        have Hev := Lib.hid hb6
        clear hb6 HQ HBf H9f
        go_wp2_with fail
        refine Q.ev_done Hev.out (Nat.le_refl _) ?_
        repeat (go_big_quiet_step (fail))
        refine wpQuiet_nil ?_
        clear q3 q4 q5 Hev
        refine NoPanic.normal ?_
        refine exit_at fun w7 hw7 => ?_
        have HBh := Lib.hid (show Below w.heap.size w w7 from by rw [hw7]; exact HBh0.out)
        have H9h := Lib.hid (show AB .u8 tSum b9 Z w7 from by rw [hw7]; exact H9h0.out)
        clear hw7 HBh0 H9h0
        have HQ := Lib.hid (alive_any w7)
        go_wp2_with fail
        refine HQ.out.mono ?_
        rintro e w8 ⟨rfl, hb8⟩
        have HBi := Lib.hid (HBh.out.trans (hb8.mono HBh.out.size))
        have H9i := Lib.hid (H9h.out.below H9h.out.lt hb8)
        clear hb8 HQ HBh H9h
        go_wp2_with fail
        refine calls_at fun W9 hW9 => ?_
        have hb9 : Below w8.heap.size w8 W9 := by rw [hW9]; exact (Below.refl _ _).alloc (Nat.le_refl _) _
        have hrb := RB_one (l := b) (A := B) (c := cb) 22 (w := w8) (Kd.C_below HB.out HBi.out) Hb.out HCb.out
        rw [← hW9] at hrb
        have HBj := Lib.hid (HBi.out.trans (hb9.mono HBi.out.size))
        have H9j := Lib.hid (H9i.out.below H9i.out.lt hb9)
        have hq := right_any key mark [b] A M (some ⟨w8.heap.size, 0, none⟩) ca cm 1 W9 (Kd.C_below HA.out HBj.out) HCa.out Ha.out (by have := HL.out; omega) (Kd.C_below HM.out HBj.out) Hm.out hrb (by simp) (by have := HL.out; simp; omega)
        rw [show ([b] : List (List Nat)).flatten = b from by simp] at hq
        by_cases h8 : 8 ≤ mark.length
        · by_cases h32 : mark.length ≤ 32
          · rw [right_ok HZ.out h8 h32] at hq
            obtain ⟨rr, hrr⟩ : ∃ r, decide (Z.take mark.length = mark) = r := ⟨_, rfl⟩
            have u1 : decide ((8 : Int) ≤ (mark.length : Int)) = true := decide_eq_true (by omega)
            have u2 : decide ((mark.length : Int) ≤ 32) = true := decide_eq_true (by omega)
            have u3 : decide (8 ≤ mark.length) = true := decide_eq_true h8
            have u4 : decide (mark.length ≤ 32) = true := decide_eq_true h32
            have HQ := Lib.hid hq
            clear hW9 hb9 hrb hq HBi H9i
            refine HQ.out.mono ?_
            rintro e w10 ⟨rfl, hb10⟩
            have HBk := Lib.hid (HBj.out.trans (hb10.mono HBj.out.size))
            have H9k := Lib.hid (H9j.out.below H9j.out.lt hb10)
            clear hb10 HQ HBj H9j
            have hrow := rowK H9k.out (show Z.length ≤ maxLen by rw [HZl.out]; decide)
            rw [HZl.out] at hrow
            have hq2 := begins_any Z mark (some ⟨b9, 0, none⟩) M 32 32 cm w10 HZl.out hrow (Kd.C_below HM.out HBk.out) (by decide) (by omega)
            have HQ2 := Lib.hid hq2
            have hwh := sum_wholeM b9
            clear hrow hq2
            go_wp2_with fail
            refine HQ2.out.mono ?_
            rintro e w11 ⟨rfl, hb11⟩
            have HBl := Lib.hid (HBk.out.trans (hb11.mono HBk.out.size))
            clear hb11 HQ2 hwh
            go_wp2_with fail
            go_ret
            exact ⟨rfl, HBl.out⟩
          · rw [right_no (fun hh => h32 hh.2)] at hq
            have u1 : decide ((8 : Int) ≤ (mark.length : Int)) = true := decide_eq_true (by omega)
            have u2 : decide ((mark.length : Int) ≤ 32) = false := decide_eq_false (by omega)
            have u3 : decide (8 ≤ mark.length) = true := decide_eq_true h8
            have u4 : decide (mark.length ≤ 32) = false := decide_eq_false h32
            have HQ := Lib.hid hq
            clear hW9 hb9 hrb hq HBi H9i
            refine HQ.out.mono ?_
            rintro e w10 ⟨rfl, hb10⟩
            have HBk := Lib.hid (HBj.out.trans (hb10.mono HBj.out.size))
            have H9k := Lib.hid (H9j.out.below H9j.out.lt hb10)
            clear hb10 HQ HBj H9j
            go_wp2_with fail
            go_ret
            exact ⟨rfl, HBk.out⟩
        · rw [right_no (fun hh => h8 hh.1)] at hq
          have u1 : decide ((8 : Int) ≤ (mark.length : Int)) = false := decide_eq_false (by omega)
          have u3 : decide (8 ≤ mark.length) = false := decide_eq_false h8
          have HQ := Lib.hid hq
          clear hW9 hb9 hrb hq HBi H9i
          refine HQ.out.mono ?_
          rintro e w10 ⟨rfl, hb10⟩
          have HBk := Lib.hid (HBj.out.trans (hb10.mono HBj.out.size))
          have H9k := Lib.hid (H9j.out.below H9j.out.lt hb10)
          clear hb10 HQ HBj H9j
          go_wp2_with fail
          go_ret
          exact ⟨rfl, HBk.out⟩
  · go_wp2_with fail
    refine ev_keepM ((Below.refl _ _).alloc (Nat.le_refl _) _) HB0.out.size fun W8 hWn => ?_
    have H9 := Lib.hid (show AB .u8 tSum w.heap.size z32 W8 from by rw [hWn]; exact AB.mk w.drew .u8 tSum z32)
    have H9b := Lib.hid (show w.heap.size ≤ w.heap.size from HB0.out.size)
    have HBn := Lib.hid (show Below w.drew.heap.size w.drew W8 from by rw [hWn]; exact (Below.refl _ _).alloc (Nat.le_refl _) _)
    clear hWn
    have HBa8 := Lib.hid (HB0.out.trans (HBn.out.mono HB0.out.size))
    clear HBn
    refine wpQuiet_nil ?_
    go_wp2_with fail
    refine ev_keepM ((Below.refl _ _).alloc (Nat.le_refl _) _) HBa8.out.size fun W9 hWn => ?_
    have HR9 := Lib.hid (show RB W9 (some ⟨W8.heap.size, 0, none⟩) [b.take i, b.drop i] from by rw [hWn]; exact RB_two (w := W8) (c1 := cb) (c2 := c3) 22 HTl.out HDl.out (HCt.out _ _ (Kd.C_below HB.out HBa8.out)) (take_lt _ Hb.out) (by have := HL.out; have := HCb.out; omega) (HCf.out _ _ (Kd.C_below HB.out HBa8.out)) (drop_lt _ Hb.out) HC3.out)
    have HBn := Lib.hid (show Below W8.heap.size W8 W9 from by rw [hWn]; exact (Below.refl _ _).alloc (Nat.le_refl _) _)
    clear hWn
    have HAB9 := Lib.hid (H9.out.below H9.out.lt HBn.out)
    have HBa9 := Lib.hid (HBa8.out.trans (HBn.out.mono HBa8.out.size))
    clear HBn
    refine wpQuiet_nil ?_
    have hq := mark_any key [b.take i, b.drop i] A (some ⟨W8.heap.size, 0, none⟩) ca 2 W9 (Kd.C_below HA.out HBa9.out) HCa.out Ha.out (by have := HL.out; omega) HR9.out (by simp) (by have := HL.out; rw [take_drop_flat]; omega)
    rw [take_drop_flat, HZ.out] at hq
    have HQ := Lib.hid hq
    clear hq
    go_wp2_with (go_at_call 33; refine HQ.out.mono ?_; rintro e W10 ⟨rfl, hbn⟩; (have HBn := Lib.hid hbn); clear hbn)
    clear HQ
    refine Q.ev_keep HBn.out HBa9.out.size ?_
    have HRB10 := Lib.hid (HR9.out.below HBn.out)
    have HAB10 := Lib.hid (HAB9.out.below HAB9.out.lt HBn.out)
    have HBa10 := Lib.hid (HBa9.out.trans (HBn.out.mono HBa9.out.size))
    clear HBn
    refine wpQuiet_nil ?_
    go_wp2_with (refine store_ab .u8 (w.heap.size) z32 Z rfl rfl rfl rfl rfl HAB10.out (by rw [HZl.out]; exact info_sum) (by rw [HZl.out]; rfl) ?_; intro W11 h10 hg10; (have H10 := Lib.hid h10); (have HG10 := Lib.hid hg10); clear h10 hg10)
    refine Q.ev_app (gr_cM HG10.out H9b.out HBa10.out.size) (Nat.le_refl _) (Q.NewRow.none_ _ _) ?_
    have HBz := Lib.hid (below_grown HBa10.out HBa10.out.size HG10.out H9b.out)
    clear HG10 H9b HAB10
    obtain ⟨b9, hb9e⟩ : ∃ b, w.heap.size = b := ⟨_, rfl⟩
    rw [hb9e] at H10 ⊢
    clear hb9e
    refine wpQuiet_nil ?_
    refine NoPanic.normal ?_
    refine exit_at fun w3 hw3 => ?_
    have HBd := Lib.hid (show Below w.heap.size w w3 from by rw [hw3]; exact HBz.out)
    have H9d := Lib.hid (show AB .u8 tSum b9 Z w3 from by rw [hw3]; exact H10.out)
    clear hw3
    go_wp2_with fail
    have hwh := sum_wholeM b9
    have q1 : ∀ x : Q.GW w3.drew w3.heap.size none, (convert 22 9 (.slice (some ⟨b9, 0, none⟩) 32 32)).run Try.prog x.w = .ok (.string (strOfNums (nat Z))) x.w := fun x => strS HZl.out (by have := rowK ((H9d.out.below H9d.out.lt (stay0 w3)).below H9d.out.lt (Q.GW.below (W := w3.drew) x)) (show Z.length ≤ maxLen by rw [HZl.out]; decide); rwa [HZl.out] at this)
    refine Q.wp_region_segs none [([0, 1, 2, 3], some 4), ([5, 6, 7, 8, 9, 11, 12, 13, 14, 15], some 10), ([16, 17], none)] (by kernel_rfl) (by kernel_rfl) (by kernel_rfl) (by kernel_rfl) ?_
    dsimp only [Q.wpSegs, Q.picks, Q.pick]
    repeat (go_big_quiet_step (fail))
    refine wpQuiet_nil ?_
    clear q1 hwh
    have hq := rmark_any key b A B ca cb w3.drew (Kd.C_below HA.out HBd.out.drew) Ha.out (by have := HL.out; omega) (Kd.C_below HB.out HBd.out.drew) Hb.out (by have := HL.out; omega)
    rw [HZ.out] at hq
    have HQ0 := Lib.hid hq
    clear hq
    go_wp2_with fail
    refine HQ0.out.mono ?_
    rintro e w5 ⟨v5, rfl, hr5, hb5⟩
    obtain ⟨A5, c5, hv5, hc5, hC5⟩ := Kd.R_reads hr5
    rw [nat_length, HZl.out] at hv5 hC5
    subst hv5
    have HC5 := Lib.hid hC5
    have HBf := Lib.hid (HBd.out.drew.trans (hb5.mono HBd.out.size))
    have H9f := Lib.hid ((H9d.out.below H9d.out.lt (stay0 w3)).below H9d.out.lt hb5)
    have Hev5 := Lib.hid hb5
    clear hr5 hb5 hc5 hC5 HQ0 HBd H9d
    go_wp2_with fail
    refine Q.ev_done Hev5.out (Nat.le_refl _) ?_
    clear Hev5
    have HQ := Lib.hid (equal_any key b A B ca cb w5 (Kd.C_below HA.out HBf.out) (Kd.C_below HB.out HBf.out) Ha.out Hb.out)
    have q3 : ∀ x : Q.GW w5 w5.heap.size none, (convert 22 9 (.slice A key.length ca)).run Try.prog x.w = .ok (.string (strOfNums (nat key))) x.w := fun x => strS rfl (Kd.C_below (Kd.C_below HA.out HBf.out) x.below)
    have q4 : ∀ x : Q.GW w5 w5.heap.size none, (convert 22 9 (.slice B b.length cb)).run Try.prog x.w = .ok (.string (strOfNums (nat b))) x.w := fun x => strS rfl (Kd.C_below (Kd.C_below HB.out HBf.out) x.below)
    have q5 : ∀ x : Q.GW w5 w5.heap.size none, (convert 22 9 (.slice A5 32 c5)).run Try.prog x.w = .ok (.string (strOfNums (nat Z))) x.w := fun x => strS HZl.out (Kd.C_below HC5.out x.below)
    by_cases hkb : key = b
    · rw [decide_eq_true hkb] at HQ
      have q6 : strOfNums (nat key) = strOfNums (nat b) := by rw [hkb]
      clear hkb
      rw [q6] at q3
      clear q6
      repeat (go_big_quiet_step (fail))
      refine wpQuiet_nil ?_
      go_wp2_with fail
      refine HQ.out.mono ?_
      rintro e w6 ⟨rfl, hb6⟩
      have HBh0 := Lib.hid (HBf.out.trans (hb6.mono HBf.out.size))
      have H9h0 := Lib.hid (H9f.out.below H9f.out.lt hb6)
      have Hev := Lib.hid hb6
      clear hb6 HQ HBf H9f
      go_wp2_with fail
      refine Q.ev_done Hev.out (Nat.le_refl _) ?_
      repeat (go_big_quiet_step (fail))
      refine wpQuiet_nil ?_
      clear q3 q4 q5 Hev
      refine NoPanic.normal ?_
      refine exit_at fun w7 hw7 => ?_
      have HBh := Lib.hid (show Below w.heap.size w w7 from by rw [hw7]; exact HBh0.out)
      have H9h := Lib.hid (show AB .u8 tSum b9 Z w7 from by rw [hw7]; exact H9h0.out)
      clear hw7 HBh0 H9h0
      have HQ := Lib.hid (alive_any w7)
      go_wp2_with fail
      refine HQ.out.mono ?_
      rintro e w8 ⟨rfl, hb8⟩
      have HBi := Lib.hid (HBh.out.trans (hb8.mono HBh.out.size))
      have H9i := Lib.hid (H9h.out.below H9h.out.lt hb8)
      clear hb8 HQ HBh H9h
      go_wp2_with fail
      refine calls_at fun W9 hW9 => ?_
      have hb9 : Below w8.heap.size w8 W9 := by rw [hW9]; exact (Below.refl _ _).alloc (Nat.le_refl _) _
      have hrb := RB_one (l := b) (A := B) (c := cb) 22 (w := w8) (Kd.C_below HB.out HBi.out) Hb.out HCb.out
      rw [← hW9] at hrb
      have HBj := Lib.hid (HBi.out.trans (hb9.mono HBi.out.size))
      have H9j := Lib.hid (H9i.out.below H9i.out.lt hb9)
      have hq := right_any key mark [b] A M (some ⟨w8.heap.size, 0, none⟩) ca cm 1 W9 (Kd.C_below HA.out HBj.out) HCa.out Ha.out (by have := HL.out; omega) (Kd.C_below HM.out HBj.out) Hm.out hrb (by simp) (by have := HL.out; simp; omega)
      rw [show ([b] : List (List Nat)).flatten = b from by simp] at hq
      by_cases h8 : 8 ≤ mark.length
      · by_cases h32 : mark.length ≤ 32
        · rw [right_ok HZ.out h8 h32] at hq
          obtain ⟨rr, hrr⟩ : ∃ r, decide (Z.take mark.length = mark) = r := ⟨_, rfl⟩
          have u1 : decide ((8 : Int) ≤ (mark.length : Int)) = true := decide_eq_true (by omega)
          have u2 : decide ((mark.length : Int) ≤ 32) = true := decide_eq_true (by omega)
          have u3 : decide (8 ≤ mark.length) = true := decide_eq_true h8
          have u4 : decide (mark.length ≤ 32) = true := decide_eq_true h32
          have HQ := Lib.hid hq
          clear hW9 hb9 hrb hq HBi H9i
          refine HQ.out.mono ?_
          rintro e w10 ⟨rfl, hb10⟩
          have HBk := Lib.hid (HBj.out.trans (hb10.mono HBj.out.size))
          have H9k := Lib.hid (H9j.out.below H9j.out.lt hb10)
          clear hb10 HQ HBj H9j
          have hrow := rowK H9k.out (show Z.length ≤ maxLen by rw [HZl.out]; decide)
          rw [HZl.out] at hrow
          have hq2 := begins_any Z mark (some ⟨b9, 0, none⟩) M 32 32 cm w10 HZl.out hrow (Kd.C_below HM.out HBk.out) (by decide) (by omega)
          have HQ2 := Lib.hid hq2
          have hwh := sum_wholeM b9
          clear hrow hq2
          go_wp2_with fail
          refine HQ2.out.mono ?_
          rintro e w11 ⟨rfl, hb11⟩
          have HBl := Lib.hid (HBk.out.trans (hb11.mono HBk.out.size))
          clear hb11 HQ2 hwh
          go_wp2_with fail
          go_ret
          exact ⟨rfl, HBl.out⟩
        · rw [right_no (fun hh => h32 hh.2)] at hq
          have u1 : decide ((8 : Int) ≤ (mark.length : Int)) = true := decide_eq_true (by omega)
          have u2 : decide ((mark.length : Int) ≤ 32) = false := decide_eq_false (by omega)
          have u3 : decide (8 ≤ mark.length) = true := decide_eq_true h8
          have u4 : decide (mark.length ≤ 32) = false := decide_eq_false h32
          have HQ := Lib.hid hq
          clear hW9 hb9 hrb hq HBi H9i
          refine HQ.out.mono ?_
          rintro e w10 ⟨rfl, hb10⟩
          have HBk := Lib.hid (HBj.out.trans (hb10.mono HBj.out.size))
          have H9k := Lib.hid (H9j.out.below H9j.out.lt hb10)
          clear hb10 HQ HBj H9j
          go_wp2_with fail
          go_ret
          exact ⟨rfl, HBk.out⟩
      · rw [right_no (fun hh => h8 hh.1)] at hq
        have u1 : decide ((8 : Int) ≤ (mark.length : Int)) = false := decide_eq_false (by omega)
        have u3 : decide (8 ≤ mark.length) = false := decide_eq_false h8
        have HQ := Lib.hid hq
        clear hW9 hb9 hrb hq HBi H9i
        refine HQ.out.mono ?_
        rintro e w10 ⟨rfl, hb10⟩
        have HBk := Lib.hid (HBj.out.trans (hb10.mono HBj.out.size))
        have H9k := Lib.hid (H9j.out.below H9j.out.lt hb10)
        clear hb10 HQ HBj H9j
        go_wp2_with fail
        go_ret
        exact ⟨rfl, HBk.out⟩
    · rw [decide_eq_false hkb] at HQ
      obtain ⟨v1, v2⟩ := str_neS Ha.out Hb.out hkb
      clear hkb
      repeat (go_big_quiet_step (fail))
      refine wpQuiet_nil ?_
      go_wp2_with fail
      refine HQ.out.mono ?_
      rintro e w6 ⟨rfl, hb6⟩
      have HBh0 := Lib.hid (HBf.out.trans (hb6.mono HBf.out.size))
      have H9h0 := Lib.hid (H9f.out.below H9f.out.lt hb6)
      have Hev := Lib.hid hb6
      clear hb6 HQ HBf H9f
      go_wp2_with fail
      refine Q.ev_done Hev.out (Nat.le_refl _) ?_
      repeat (go_big_quiet_step (fail))
      refine wpQuiet_nil ?_
      clear q3 q4 q5 Hev
      refine NoPanic.normal ?_
      refine exit_at fun w7 hw7 => ?_
      have HBh := Lib.hid (show Below w.heap.size w w7 from by rw [hw7]; exact HBh0.out)
      have H9h := Lib.hid (show AB .u8 tSum b9 Z w7 from by rw [hw7]; exact H9h0.out)
      clear hw7 HBh0 H9h0
      have HQ := Lib.hid (alive_any w7)
      go_wp2_with fail
      refine HQ.out.mono ?_
      rintro e w8 ⟨rfl, hb8⟩
      have HBi := Lib.hid (HBh.out.trans (hb8.mono HBh.out.size))
      have H9i := Lib.hid (H9h.out.below H9h.out.lt hb8)
      clear hb8 HQ HBh H9h
      go_wp2_with fail
      refine calls_at fun W9 hW9 => ?_
      have hb9 : Below w8.heap.size w8 W9 := by rw [hW9]; exact (Below.refl _ _).alloc (Nat.le_refl _) _
      have hrb := RB_one (l := b) (A := B) (c := cb) 22 (w := w8) (Kd.C_below HB.out HBi.out) Hb.out HCb.out
      rw [← hW9] at hrb
      have HBj := Lib.hid (HBi.out.trans (hb9.mono HBi.out.size))
      have H9j := Lib.hid (H9i.out.below H9i.out.lt hb9)
      have hq := right_any key mark [b] A M (some ⟨w8.heap.size, 0, none⟩) ca cm 1 W9 (Kd.C_below HA.out HBj.out) HCa.out Ha.out (by have := HL.out; omega) (Kd.C_below HM.out HBj.out) Hm.out hrb (by simp) (by have := HL.out; simp; omega)
      rw [show ([b] : List (List Nat)).flatten = b from by simp] at hq
      by_cases h8 : 8 ≤ mark.length
      · by_cases h32 : mark.length ≤ 32
        · rw [right_ok HZ.out h8 h32] at hq
          obtain ⟨rr, hrr⟩ : ∃ r, decide (Z.take mark.length = mark) = r := ⟨_, rfl⟩
          have u1 : decide ((8 : Int) ≤ (mark.length : Int)) = true := decide_eq_true (by omega)
          have u2 : decide ((mark.length : Int) ≤ 32) = true := decide_eq_true (by omega)
          have u3 : decide (8 ≤ mark.length) = true := decide_eq_true h8
          have u4 : decide (mark.length ≤ 32) = true := decide_eq_true h32
          have HQ := Lib.hid hq
          clear hW9 hb9 hrb hq HBi H9i
          refine HQ.out.mono ?_
          rintro e w10 ⟨rfl, hb10⟩
          have HBk := Lib.hid (HBj.out.trans (hb10.mono HBj.out.size))
          have H9k := Lib.hid (H9j.out.below H9j.out.lt hb10)
          clear hb10 HQ HBj H9j
          have hrow := rowK H9k.out (show Z.length ≤ maxLen by rw [HZl.out]; decide)
          rw [HZl.out] at hrow
          have hq2 := begins_any Z mark (some ⟨b9, 0, none⟩) M 32 32 cm w10 HZl.out hrow (Kd.C_below HM.out HBk.out) (by decide) (by omega)
          have HQ2 := Lib.hid hq2
          have hwh := sum_wholeM b9
          clear hrow hq2
          go_wp2_with fail
          refine HQ2.out.mono ?_
          rintro e w11 ⟨rfl, hb11⟩
          have HBl := Lib.hid (HBk.out.trans (hb11.mono HBk.out.size))
          clear hb11 HQ2 hwh
          go_wp2_with fail
          go_ret
          exact ⟨rfl, HBl.out⟩
        · rw [right_no (fun hh => h32 hh.2)] at hq
          have u1 : decide ((8 : Int) ≤ (mark.length : Int)) = true := decide_eq_true (by omega)
          have u2 : decide ((mark.length : Int) ≤ 32) = false := decide_eq_false (by omega)
          have u3 : decide (8 ≤ mark.length) = true := decide_eq_true h8
          have u4 : decide (mark.length ≤ 32) = false := decide_eq_false h32
          have HQ := Lib.hid hq
          clear hW9 hb9 hrb hq HBi H9i
          refine HQ.out.mono ?_
          rintro e w10 ⟨rfl, hb10⟩
          have HBk := Lib.hid (HBj.out.trans (hb10.mono HBj.out.size))
          have H9k := Lib.hid (H9j.out.below H9j.out.lt hb10)
          clear hb10 HQ HBj H9j
          go_wp2_with fail
          go_ret
          exact ⟨rfl, HBk.out⟩
      · rw [right_no (fun hh => h8 hh.1)] at hq
        have u1 : decide ((8 : Int) ≤ (mark.length : Int)) = false := decide_eq_false (by omega)
        have u3 : decide (8 ≤ mark.length) = false := decide_eq_false h8
        have HQ := Lib.hid hq
        clear hW9 hb9 hrb hq HBi H9i
        refine HQ.out.mono ?_
        rintro e w10 ⟨rfl, hb10⟩
        have HBk := Lib.hid (HBj.out.trans (hb10.mono HBj.out.size))
        have H9k := Lib.hid (H9j.out.below H9j.out.lt hb10)
        clear hb10 HQ HBj H9j
        go_wp2_with fail
        go_ret
        exact ⟨rfl, HBk.out⟩
theorem marks_walk (key b mark : List Int) (A B M : Option Addr) (ca cb cm : Nat) (at' : Int) (w : World) (hA : (Kd.int .u8).C w A key.length key) (hca : key.length ≤ ca) (ha : ∀ x ∈ key, 0 ≤ x ∧ x < 256) (hB : (Kd.int .u8).C w B b.length b) (hcb : b.length ≤ cb) (hb : ∀ x ∈ b, 0 ≤ x ∧ x < 256) (hM : (Kd.int .u8).C w M mark.length mark) (hm : ∀ x ∈ mark, 0 ≤ x ∧ x < 256) :
    Calls Try.prog 10 #[.slice A key.length ca, .slice B b.length cb, .slice M mark.length cm, .int .i64 at'] w fun e w' => e = .returned (.bool true) ∧ Below w.heap.size w w' := by
  obtain ⟨m1, e1, k1, l1, _⟩ := C_nat (m := 256) hA ha
  obtain ⟨m2, e2, k2, l2, _⟩ := C_nat (m := 256) hB hb
  obtain ⟨m3, e3, k3, l3, _⟩ := C_nat (m := 256) hM hm
  rw [← e1, ← e2, ← e3]
  exact marks_nat m1 m2 m3 A B M ca cb cm at' w k1 (by omega) l1 k2 (by omega) l2 k3 l3
end Go.Proofs.Ytagfplcafeblbaa.Mc
