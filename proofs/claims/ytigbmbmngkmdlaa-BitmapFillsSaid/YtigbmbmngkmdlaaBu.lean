/-
  bitmap: the law BitmapTells, walked.
-/
import Derived.Test.YtigbmbmngkmdlaaBr
import Derived.Test.YtigbmbmngkmdlaaBs
namespace Go.Proofs.Ytigbmbmngkmdlaa.Bm
open Go.RowKit Go.Proofs.Ytigbmbmngkmdlaa.L Go.Proofs.Ytigbmbmngkmdlaa.Bt Go.Proofs.YtigbmbmngkmdlaaW.PrintWords

theorem mk2 (w : World) (n x m y : Int) : ∃ z, z = (w.alloc (.cells #[.int .i64 n, .int .u64 x] 24)).alloc (.cells #[.int .i64 m, .int .u64 y] 24) ∧ At w.heap.size n x z ∧ At (w.heap.size + 1) m y z ∧ Below w.heap.size w z := by
  obtain ⟨a, ha, h1, b1⟩ := mk w n x
  obtain ⟨b, hb, h2, b2⟩ := mk a m y
  have e1 : a.heap.size = w.heap.size + 1 := by rw [ha]; simp
  rw [e1] at h2
  exact ⟨b, by rw [hb, ha], h1.below b2, h2, stay1 b1 b2⟩
theorem of_is (n : Int) (x : Nat) (L : List Bool) (q : Bool) (w : World) (hx : x < 2 ^ 64) (h : ofR n x = (L, q)) : Calls Try.prog 16 #[.int .i64 n, .int .u64 x] w fun e w' => ∃ v0 : Value, e = .returned (.tuple #[v0, .bool q]) ∧ Kd.bool.R 4 w' w.heap.size (fun _ => True) v0 L ∧ Below w.heap.size w w' := by
  have := of_any n x w hx
  rwa [h] at this
theorem with_is (n : Int) (x : Nat) (i : Int) (a : Int) (b : Nat) (c : Int) (w : World) (hx : x < 2 ^ 64) (h : withR n x i = (a, b, c)) : Calls Try.prog 47 #[.agg #[.int .i64 n, .int .u64 x], .int .i64 i] w fun e w' => e = .returned (.tuple #[.agg #[.int .i64 a, .int .u64 b], .int .i64 c]) ∧ Below w.heap.size w w' := by
  have := with_any n x i w hx
  rwa [h] at this
theorem or_is (n : Int) (x : Nat) (m : Int) (y : Nat) (a : Int) (b : Nat) (c : Int) (w : World) (hx : x < 2 ^ 64) (hy : y < 2 ^ 64) (h : orR n x m y = (a, b, c)) : Calls Try.prog 45 #[.agg #[.int .i64 n, .int .u64 x], .agg #[.int .i64 m, .int .u64 y]] w fun e w' => e = .returned (.tuple #[.agg #[.int .i64 a, .int .u64 b], .int .i64 c]) ∧ Below w.heap.size w w' := by
  have := or_any n x m y w hx hy
  rwa [h] at this
theorem count_is (n : Int) (x : Nat) (c : Int) (w : World) (hx : x < 2 ^ 64) (h : (if rgt n x then (pcB 64 x : Int) else 0) = c) : Calls Try.prog 46 #[.agg #[.int .i64 n, .int .u64 x]] w fun e w' => e = .returned (.int .i64 c) ∧ Below w.heap.size w w' := by
  have := count_any n x w hx
  rwa [h] at this
theorem miss_is (n : Int) (x : Nat) (L : List Int) (w : World) (hx : x < 2 ^ 64) (h : missR n x = L) : Calls Try.prog 48 #[.agg #[.int .i64 n, .int .u64 x]] w fun e w' => ∃ v0 : Value, e = .returned v0 ∧ (Kd.int .i64).R 3 w' w.heap.size (fun _ => True) v0 L ∧ Below w.heap.size w w' := by
  have := missing_any n x w hx
  rwa [h] at this
theorem full_is (n : Int) (x : Nat) (q : Bool) (w : World) (hx : x < 2 ^ 64) (h : fullB n x = q) : Calls Try.prog 49 #[.agg #[.int .i64 n, .int .u64 x]] w fun e w' => e = .returned (.bool q) ∧ Below w.heap.size w w' := by
  have := full_any n x w hx
  rwa [h] at this
theorem has_is (n : Int) (x : Nat) (i : Int) (q : Bool) (w : World) (hx : x < 2 ^ 64) (h : hasB n x i = q) : Calls Try.prog 50 #[.agg #[.int .i64 n, .int .u64 x], .int .i64 i] w fun e w' => e = .returned (.bool q) ∧ Below w.heap.size w w' := by
  have := has_any n x i w hx
  rwa [h] at this
theorem right_is (n : Int) (x : Nat) (q : Bool) (w : World) (hx : x < 2 ^ 64) (h : rgt n x = q) : Calls Try.prog 43 #[.agg #[.int .i64 n, .int .u64 x]] w fun e w' => e = .returned (.bool q) ∧ Below w.heap.size w w' := by
  have := right_any n x w hx
  rwa [h] at this
theorem rcount_is (l : List Bool) (A : Option Addr) (n c : Nat) (w : World) (hn : l.length = n) (hC : Kd.bool.C w A n l) : Calls Try.prog 51 #[.slice A n c] w fun e w' => e = .returned (.int .i64 (l.count true)) ∧ Below w.heap.size w w' := by
  subst hn
  refine (rcount_any l A c w hC).mono fun e w' h => ⟨h.1, ?_⟩
  rw [h.2]
  exact Below.refl _ _
theorem pos_nat {N : Nat} {x : Nat} (h : rgt N x = true) : x < 2 ^ N ∧ N ≤ 64 := by
  simp [rgt] at h
  omega

set_option maxHeartbeats 3200000 in
set_option maxRecDepth 100000 in
theorem tells_no (n : Int) (x : Nat) (m : Int) (y : Nat) (i : Int) (w : World) (hx : x < 2 ^ 64) (hy : y < 2 ^ 64) (h1 : rgt n x = false) :
    Calls Try.prog 10 #[.agg #[.int .i64 n, .int .u64 x], .agg #[.int .i64 m, .int .u64 y], .int .i64 i] w fun e w' => e = .returned (.bool true) ∧ Below w.heap.size w w' := by
  have hu := Try.underlying24
  obtain ⟨wc, hwc, ha, hb, hbel⟩ := mk2 w n x m y
  have HB := Lib.hid hbel
  have HA := Lib.hid ha
  have HO := Lib.hid hb
  obtain ⟨L1, q1, e1⟩ : ∃ L q, ofR n x = (L, q) := ⟨_, _, rfl⟩
  obtain ⟨L2, q2, e2⟩ : ∃ L q, ofR m y = (L, q) := ⟨_, _, rfl⟩
  obtain rfl : q1 = false := by rw [← h1, ← ofR_2, e1]
  have H1 := Lib.hid (fun w => of_is n x L1 false w hx e1)
  have H2 := Lib.hid (fun w => of_is m y L2 q2 w hy e2)
  have H3 := Lib.hid (fun w => right_is n x false w hx h1)
  have H4 := Lib.hid (fun w => with_is n x i 0 0 3 w hx (by simp [withR, h1]))
  have H5 := Lib.hid (fun w => or_is n x m y 0 0 3 w hx hy (by simp [orR, h1]))
  have H6 := Lib.hid (fun w => count_is n x 0 w hx (by simp [h1]))
  have H7 := Lib.hid (fun w => miss_is n x [] w hx (by simp [missR, h1]))
  have H8 := Lib.hid (fun w => full_is n x false w hx (by simp [fullB, h1]))
  have H9 := Lib.hid (fun w => has_is n x i false w hx (by simp [hasB, h1]))
  clear ha hb hbel hx hy h1 e1 e2
  have ha_0 := HA.out.c0
  have ha_1 := HA.out.c1
  rw [hwc] at ha_0 ha_1
  go_enter Try.func10, Try.ntmps10
  go_wp2_with fail
  rw [← hwc]
  clear hwc
  clear ha_0 ha_1
  refine (H1.out _).mono ?_
  rintro e w1 ⟨v11, rfl, ho11, hb1⟩
  replace HB := Lib.hid (stay1 HB.out hb1)
  replace HA := Lib.hid (HA.out.below hb1)
  replace HO := Lib.hid (HO.out.below hb1)
  obtain ⟨A1, c1, rfl, hk1, hC1⟩ := Kd.R_reads ho11
  have HL := Lib.hid (hC1)
  have KHL := Lib.hid (hk1)
  clear ho11 hC1 hk1
  clear hb1
  have ho_0 := HO.out.c0
  have ho_1 := HO.out.c1
  go_wp2_with fail
  clear ho_0 ho_1
  refine (H2.out _).mono ?_
  rintro e w2 ⟨v22, rfl, ho22, hb2⟩
  replace HB := Lib.hid (stay1 HB.out hb2)
  replace HA := Lib.hid (HA.out.below hb2)
  replace HO := Lib.hid (HO.out.below hb2)
  replace HL := Lib.hid (Kd.C_below HL.out hb2)
  obtain ⟨A2, c2, rfl, hk2, hC2⟩ := Kd.R_reads ho22
  have HK := Lib.hid (hC2)
  have KHK := Lib.hid (hk2)
  clear ho22 hC2 hk2
  clear hb2
  have ha_0 := HA.out.c0
  have ha_1 := HA.out.c1
  go_wp2_with fail
  clear ha_0 ha_1
  refine (H3.out _).mono ?_
  rintro e w3 ⟨rfl, hb3⟩
  replace HB := Lib.hid (stay1 HB.out hb3)
  replace HA := Lib.hid (HA.out.below hb3)
  replace HO := Lib.hid (HO.out.below hb3)
  replace HL := Lib.hid (Kd.C_below HL.out hb3)
  replace HK := Lib.hid (Kd.C_below HK.out hb3)
  clear hb3
  have ha_0 := HA.out.c0
  have ha_1 := HA.out.c1
  go_wp2_with fail
  clear ha_0 ha_1
  refine (H4.out _).mono ?_
  rintro e w4 ⟨rfl, hb4⟩
  replace HB := Lib.hid (stay1 HB.out hb4)
  replace HA := Lib.hid (HA.out.below hb4)
  replace HO := Lib.hid (HO.out.below hb4)
  replace HL := Lib.hid (Kd.C_below HL.out hb4)
  replace HK := Lib.hid (Kd.C_below HK.out hb4)
  clear hb4
  obtain ⟨y5, hy5, ha5, hby5⟩ := mk w4 0 0
  replace HB := Lib.hid (stay1 HB.out hby5)
  replace HA := Lib.hid (HA.out.below hby5)
  replace HO := Lib.hid (HO.out.below hby5)
  replace HL := Lib.hid (Kd.C_below HL.out hby5)
  replace HK := Lib.hid (Kd.C_below HK.out hby5)
  have HW := Lib.hid (ha5)
  clear ha5 hby5
  have ha_0 := HA.out.c0
  have ha_1 := HA.out.c1
  have ho_0 := HO.out.c0
  have ho_1 := HO.out.c1
  rw [hy5] at ha_0 ha_1 ho_0 ho_1
  go_wp2_with fail
  rw [← hy5]
  clear hy5
  clear ha_0 ha_1 ho_0 ho_1
  refine (H5.out _).mono ?_
  rintro e w6 ⟨rfl, hb6⟩
  replace HB := Lib.hid (stay1 HB.out hb6)
  replace HA := Lib.hid (HA.out.below hb6)
  replace HO := Lib.hid (HO.out.below hb6)
  replace HL := Lib.hid (Kd.C_below HL.out hb6)
  replace HK := Lib.hid (Kd.C_below HK.out hb6)
  replace HW := Lib.hid (HW.out.below hb6)
  clear hb6
  obtain ⟨y7, hy7, ha7, hby7⟩ := mk w6 0 0
  replace HB := Lib.hid (stay1 HB.out hby7)
  replace HA := Lib.hid (HA.out.below hby7)
  replace HO := Lib.hid (HO.out.below hby7)
  replace HL := Lib.hid (Kd.C_below HL.out hby7)
  replace HK := Lib.hid (Kd.C_below HK.out hby7)
  replace HW := Lib.hid (HW.out.below hby7)
  have HX := Lib.hid (ha7)
  clear ha7 hby7
  have ha_0 := HA.out.c0
  have ha_1 := HA.out.c1
  have ho_0 := HO.out.c0
  have ho_1 := HO.out.c1
  rw [hy7] at ha_0 ha_1 ho_0 ho_1
  go_wp2_with fail
  rw [← hy7]
  clear hy7
  clear ha_0 ha_1 ho_0 ho_1
  refine (alive_any _).mono ?_
  rintro e w8 ⟨rfl, hb8⟩
  replace HB := Lib.hid (stay1 HB.out hb8)
  replace HA := Lib.hid (HA.out.below hb8)
  replace HO := Lib.hid (HO.out.below hb8)
  replace HL := Lib.hid (Kd.C_below HL.out hb8)
  replace HK := Lib.hid (Kd.C_below HK.out hb8)
  replace HW := Lib.hid (HW.out.below hb8)
  replace HX := Lib.hid (HX.out.below hb8)
  clear hb8
  have ha_0 := HA.out.c0
  have ha_1 := HA.out.c1
  go_wp2_with fail
  clear ha_0 ha_1
  refine (H6.out _).mono ?_
  rintro e w9 ⟨rfl, hb9⟩
  replace HB := Lib.hid (stay1 HB.out hb9)
  replace HA := Lib.hid (HA.out.below hb9)
  replace HO := Lib.hid (HO.out.below hb9)
  replace HL := Lib.hid (Kd.C_below HL.out hb9)
  replace HK := Lib.hid (Kd.C_below HK.out hb9)
  replace HW := Lib.hid (HW.out.below hb9)
  replace HX := Lib.hid (HX.out.below hb9)
  clear hb9
  have ha_0 := HA.out.c0
  have ha_1 := HA.out.c1
  go_wp2_with fail
  clear ha_0 ha_1
  refine (H7.out _).mono ?_
  rintro e w10 ⟨v107, rfl, ho107, hb10⟩
  replace HB := Lib.hid (stay1 HB.out hb10)
  replace HA := Lib.hid (HA.out.below hb10)
  replace HO := Lib.hid (HO.out.below hb10)
  replace HL := Lib.hid (Kd.C_below HL.out hb10)
  replace HK := Lib.hid (Kd.C_below HK.out hb10)
  replace HW := Lib.hid (HW.out.below hb10)
  replace HX := Lib.hid (HX.out.below hb10)
  obtain ⟨A7, c7, rfl, hk7, hC7⟩ := Kd.R_reads ho107
  have HG := Lib.hid (hC7)
  have KHG := Lib.hid (hk7)
  clear ho107 hC7 hk7
  clear hb10
  have ha_0 := HA.out.c0
  have ha_1 := HA.out.c1
  go_wp2_with fail
  clear ha_0 ha_1
  refine (H8.out _).mono ?_
  rintro e w11 ⟨rfl, hb11⟩
  replace HB := Lib.hid (stay1 HB.out hb11)
  replace HA := Lib.hid (HA.out.below hb11)
  replace HO := Lib.hid (HO.out.below hb11)
  replace HL := Lib.hid (Kd.C_below HL.out hb11)
  replace HK := Lib.hid (Kd.C_below HK.out hb11)
  replace HW := Lib.hid (HW.out.below hb11)
  replace HX := Lib.hid (HX.out.below hb11)
  replace HG := Lib.hid (Kd.C_below HG.out hb11)
  clear hb11
  have ha_0 := HA.out.c0
  have ha_1 := HA.out.c1
  go_wp2_with fail
  clear ha_0 ha_1
  refine (H9.out _).mono ?_
  rintro e w12 ⟨rfl, hb12⟩
  replace HB := Lib.hid (stay1 HB.out hb12)
  replace HA := Lib.hid (HA.out.below hb12)
  replace HO := Lib.hid (HO.out.below hb12)
  replace HL := Lib.hid (Kd.C_below HL.out hb12)
  replace HK := Lib.hid (Kd.C_below HK.out hb12)
  replace HW := Lib.hid (HW.out.below hb12)
  replace HX := Lib.hid (HX.out.below hb12)
  replace HG := Lib.hid (Kd.C_below HG.out hb12)
  clear hb12
  go_wp2
  go_ret
  exact ⟨rfl, HB.out⟩
/-- a row of truths that may be written -/
theorem boolset {w : World} {B : Nat} {ok : Nat → Prop} {g cap : Nat} {l : List Bool} (h : Kd.bool.R 4 w B ok (.slice (some ⟨g, 0, none⟩) l.length cap) l) (j : Nat) (b : Bool) :
    Kd.bool.R 4 (w.setCell ⟨g, j, none⟩ (.bool b)) B ok (.slice (some ⟨g, 0, none⟩) l.length cap) (l.set j b) := by
  have := (Kd.R_put h (j : Int) b).1
  rw [Int.toNat_natCast] at this
  exact this
theorem C_cellb {w : World} {bk off N x j : Nat} (h : Kd.bool.C w (some ⟨bk, off, none⟩) N (bitsL x N)) (hj : j < N) : w.cell? ⟨bk, off + j, none⟩ = some (.bool (x.testBit j)) := by
  have h2 : Kd.bool.C w (some ⟨bk, off, none⟩) (bitsL x N).length (bitsL x N) := by rw [bitsL_len]; exact h
  obtain ⟨_, h0 | ⟨b2, o2, e, _, hc⟩⟩ := C_openb h2
  · have := congrArg List.length h0
    rw [bitsL_len] at this
    simp at this; omega
  · injection e with e
    injection e with e1 e2
    subst e1 e2
    rw [hc j (by rw [bitsL_len]; exact hj)]
    simp [bitsL, hj]
theorem same_is (N z : Nat) (A : Option Addr) (c : Nat) (w : World) (hC : Kd.bool.C w A N (bitsL z N)) (hr : rgt N z = true) :
    Calls Try.prog 20 #[.agg #[.int .i64 N, .int .u64 z], .slice A N c] w fun e w' => e = .returned (.bool true) ∧ Below w.heap.size w w' := by
  have h2 : Kd.bool.C w A (bitsL z N).length (bitsL z N) := by rw [bitsL_len]; exact hC
  have := same_yes z (bitsL z N) A c w h2 (rgt_zero hr).2.2 (fun i hi => by
    rw [bitsL_len] at hi ⊢
    simp [hasB, hr, hi, bitsL])
  rwa [bitsL_len] at this
theorem A_some {w : World} {A : Option Addr} {N x j : Nat} (h : Kd.bool.C w A N (bitsL x N)) (hj : j < N) : ∃ bk off, A = some ⟨bk, off, none⟩ := by
  have h2 : Kd.bool.C w A (bitsL x N).length (bitsL x N) := by rw [bitsL_len]; exact h
  obtain ⟨_, h0 | ⟨b2, o2, e, _, _⟩⟩ := C_openb h2
  · have := congrArg List.length h0
    rw [bitsL_len] at this
    simp at this; omega
  · exact ⟨b2, o2, e⟩
theorem At.row {b : Nat} {n x : Int} {w : World} (h : At b n x w) {B : Nat} {ok : Nat → Prop} {g cap : Nat} {l : List Bool} (hR : Kd.bool.R 4 w B ok (.slice (some ⟨g, 0, none⟩) l.length cap) l) (j : Nat) (v : Value) : At b n x (w.setCell ⟨g, j, none⟩ v) :=
  h.far (p := ⟨g, j, none⟩) (fun e => Kd.R_ne hR (show w.heap[b]? = _ from h) (by decide) (by rw [e]; rfl)) v

set_option maxHeartbeats 12800000 in
set_option maxRecDepth 100000 in
theorem tells_yes (N : Nat) (x : Nat) (m : Int) (y : Nat) (i : Int) (w : World) (hx : x < 2 ^ 64) (hy : y < 2 ^ 64) (h1 : rgt N x = true) :
    Calls Try.prog 10 #[.agg #[.int .i64 N, .int .u64 x], .agg #[.int .i64 m, .int .u64 y], .int .i64 i] w fun e w' => e = .returned (.bool true) ∧ Below w.heap.size w w' := by
  have hu := Try.underlying24
  obtain ⟨wc, hwc, ha, hb, hbel⟩ := mk2 w N x m y
  have HB := Lib.hid hbel
  have HA := Lib.hid ha
  have HO := Lib.hid hb
  obtain ⟨L2, q2, e2⟩ : ∃ L q, ofR m y = (L, q) := ⟨_, _, rfl⟩
  obtain rfl : q2 = rgt m y := by rw [← ofR_2, e2]
  obtain ⟨wn, wx, we, ew⟩ : ∃ a b c, withR N x i = (a, b, c) := ⟨_, _, _, rfl⟩
  obtain ⟨on, ox, oe, eo⟩ : ∃ a b c, orR N x m y = (a, b, c) := ⟨_, _, _, rfl⟩
  have hp := pos_nat h1
  have h1N : ofR (N : Int) x = (bitsL x N, true) := by
    have h2 := (ofR_yes h1).1
    have h3 := ofR_2 (N : Int) x
    rw [h1] at h3
    rw [show ofR (N : Int) x = ((ofR (N : Int) x).1, (ofR (N : Int) x).2) from rfl, h2, h3, Int.toNat_natCast]
  have hpc : (pcB 64 x : Int) = pcB N x := by rw [pcB_64 h1, Int.toNat_natCast]
  have hple := pcB_le N x
  have H1 := Lib.hid (fun w => of_is N x (bitsL x N) true w hx h1N)
  have H2 := Lib.hid (fun w => of_is m y L2 (rgt m y) w hy e2)
  have H3 := Lib.hid (fun w => right_is N x true w hx h1)
  have H4 := Lib.hid (fun w => with_is N x i wn wx we w hx ew)
  have H5 := Lib.hid (fun w => or_is N x m y on ox oe w hx hy eo)
  have H6 := Lib.hid (fun w => count_is N x (pcB N x) w hx (by rw [h1, if_pos rfl]; exact hpc))
  have H7 := Lib.hid (fun w => miss_is N x (gone x N) w hx (by simp [missR, h1]))
  have H8 := Lib.hid (fun w => full_is N x ((pcB N x : Int) == (N : Int)) w hx (by
    rw [fullB, h1, Bool.true_and, Bool.eq_iff_iff]
    have := pcB_full hp.1
    simp only [beq_iff_eq, Int.toNat_natCast]
    omega))
  have H9 := Lib.hid (fun q w h => has_is N x i q w hx h)
  have HWC := Lib.hid (show w.heap.size ≤ wc.heap.size from hbel.size)
  have HG := Lib.hid (show rgt N x = true ∧ x < 2 ^ N ∧ N ≤ 64 ∧ x < 2 ^ 64 ∧ y < 2 ^ 64 ∧ pcB N x ≤ N from ⟨h1, hp.1, hp.2, hx, hy, hple⟩)
  have HE2 := Lib.hid e2
  have HEW := Lib.hid ew
  have HEO := Lib.hid eo
  clear ha hb hbel hx hy h1 e2 ew eo hp hpc h1N hple
  have ha_0 := HA.out.c0
  have ha_1 := HA.out.c1
  rw [hwc] at ha_0 ha_1
  go_enter Try.func10, Try.ntmps10
  go_wp2_with fail
  rw [← hwc]
  clear hwc
  clear ha_0 ha_1
  refine (H1.out _).mono ?_
  rintro e w1 ⟨v1, rfl, ho1, hb1⟩
  replace HB := Lib.hid (stay1 HB.out hb1)
  replace HA := Lib.hid (HA.out.below hb1)
  replace HO := Lib.hid (HO.out.below hb1)
  obtain ⟨A1, c1, rfl, hk1, hC1⟩ := Kd.R_reads ho1
  rw [bitsL_len] at hC1 hk1
  have HL := Lib.hid hC1
  have HL := Lib.hid hC1
  have HLR := Lib.hid ho1
  have HLR := Lib.hid ho1
  have HLT := Lib.hid (Kd.R_lt ho1)
  clear hk1 hC1 ho1 hb1
  have ho_0 := HO.out.c0
  have ho_1 := HO.out.c1
  go_wp2_with fail
  clear ho_0 ho_1
  refine (H2.out _).mono ?_
  rintro e w2 ⟨v2, rfl, ho2, hb2⟩
  replace HB := Lib.hid (stay1 HB.out hb2)
  replace HA := Lib.hid (HA.out.below hb2)
  replace HO := Lib.hid (HO.out.below hb2)
  replace HL := Lib.hid (Kd.C_below HL.out hb2)
  replace HLR := Lib.hid (Kd.R_below HLR.out hb2)
  obtain ⟨A2, c2, rfl, hk2, hC2⟩ := Kd.R_reads ho2
  have HK := Lib.hid hC2
  have HKR := Lib.hid (R_up ho2 (Nat.le_refl _))
  have HKR := Lib.hid (R_up ho2 (Nat.le_refl _))
  clear hk2 hC2 ho2 hb2
  have ha_0 := HA.out.c0
  have ha_1 := HA.out.c1
  go_wp2_with fail
  clear ha_0 ha_1
  refine (H3.out _).mono ?_
  rintro e w3 ⟨rfl, hb3⟩
  replace HB := Lib.hid (stay1 HB.out hb3)
  replace HA := Lib.hid (HA.out.below hb3)
  replace HO := Lib.hid (HO.out.below hb3)
  replace HL := Lib.hid (Kd.C_below HL.out hb3)
  replace HLR := Lib.hid (Kd.R_below HLR.out hb3)
  replace HK := Lib.hid (Kd.C_below HK.out hb3)
  replace HKR := Lib.hid (Kd.R_below HKR.out hb3)
  clear hb3
  have ha_0 := HA.out.c0
  have ha_1 := HA.out.c1
  go_wp2_with fail
  clear ha_0 ha_1
  refine (H4.out _).mono ?_
  rintro e w4 ⟨rfl, hb4⟩
  replace HB := Lib.hid (stay1 HB.out hb4)
  replace HA := Lib.hid (HA.out.below hb4)
  replace HO := Lib.hid (HO.out.below hb4)
  replace HL := Lib.hid (Kd.C_below HL.out hb4)
  replace HLR := Lib.hid (Kd.R_below HLR.out hb4)
  replace HK := Lib.hid (Kd.C_below HK.out hb4)
  replace HKR := Lib.hid (Kd.R_below HKR.out hb4)
  clear hb4
  obtain ⟨y5, hy5, ha5, hby5⟩ := mk w4 wn wx
  replace HB := Lib.hid (stay1 HB.out hby5)
  replace HA := Lib.hid (HA.out.below hby5)
  replace HO := Lib.hid (HO.out.below hby5)
  replace HL := Lib.hid (Kd.C_below HL.out hby5)
  replace HLR := Lib.hid (Kd.R_below HLR.out hby5)
  replace HK := Lib.hid (Kd.C_below HK.out hby5)
  replace HKR := Lib.hid (Kd.R_below HKR.out hby5)
  have HW := Lib.hid (ha5)
  clear ha5 hby5
  have ha_0 := HA.out.c0
  have ha_1 := HA.out.c1
  have ho_0 := HO.out.c0
  have ho_1 := HO.out.c1
  rw [hy5] at ha_0 ha_1 ho_0 ho_1
  go_wp2_with fail
  rw [← hy5]
  clear hy5
  clear ha_0 ha_1 ho_0 ho_1
  refine (H5.out _).mono ?_
  rintro e w6 ⟨rfl, hb6⟩
  replace HB := Lib.hid (stay1 HB.out hb6)
  replace HA := Lib.hid (HA.out.below hb6)
  replace HO := Lib.hid (HO.out.below hb6)
  replace HL := Lib.hid (Kd.C_below HL.out hb6)
  replace HLR := Lib.hid (Kd.R_below HLR.out hb6)
  replace HK := Lib.hid (Kd.C_below HK.out hb6)
  replace HKR := Lib.hid (Kd.R_below HKR.out hb6)
  replace HW := Lib.hid (HW.out.below hb6)
  clear hb6
  obtain ⟨y7, hy7, ha7, hby7⟩ := mk w6 on ox
  replace HB := Lib.hid (stay1 HB.out hby7)
  replace HA := Lib.hid (HA.out.below hby7)
  replace HO := Lib.hid (HO.out.below hby7)
  replace HL := Lib.hid (Kd.C_below HL.out hby7)
  replace HLR := Lib.hid (Kd.R_below HLR.out hby7)
  replace HK := Lib.hid (Kd.C_below HK.out hby7)
  replace HKR := Lib.hid (Kd.R_below HKR.out hby7)
  replace HW := Lib.hid (HW.out.below hby7)
  have HX := Lib.hid (ha7)
  clear ha7 hby7
  go_wp2_with fail
  rw [← hy7]
  clear hy7
  rw [bitsL_len]
  refine (rcount_is (bitsL x N) A1 N c1 _ (bitsL_len x N) HL.out).mono ?_
  rintro e w8 ⟨rfl, hb8⟩
  replace HB := Lib.hid (stay1 HB.out hb8)
  replace HA := Lib.hid (HA.out.below hb8)
  replace HO := Lib.hid (HO.out.below hb8)
  replace HL := Lib.hid (Kd.C_below HL.out hb8)
  replace HLR := Lib.hid (Kd.R_below HLR.out hb8)
  replace HK := Lib.hid (Kd.C_below HK.out hb8)
  replace HKR := Lib.hid (Kd.R_below HKR.out hb8)
  replace HW := Lib.hid (HW.out.below hb8)
  replace HX := Lib.hid (HX.out.below hb8)
  clear hb8
  rw [bitsL_count]
  have ha_0 := HA.out.c0
  have ha_1 := HA.out.c1
  go_wp2_with fail
  clear ha_0 ha_1
  refine (H7.out _).mono ?_
  rintro e w9 ⟨v97, rfl, ho97, hb9⟩
  replace HB := Lib.hid (stay1 HB.out hb9)
  replace HA := Lib.hid (HA.out.below hb9)
  replace HO := Lib.hid (HO.out.below hb9)
  replace HL := Lib.hid (Kd.C_below HL.out hb9)
  replace HLR := Lib.hid (Kd.R_below HLR.out hb9)
  replace HK := Lib.hid (Kd.C_below HK.out hb9)
  replace HKR := Lib.hid (Kd.R_below HKR.out hb9)
  replace HW := Lib.hid (HW.out.below hb9)
  replace HX := Lib.hid (HX.out.below hb9)
  obtain ⟨A7, c7, rfl, hk7, hC7⟩ := Kd.R_reads ho97
  have HGN := Lib.hid (hC7)
  have KHGN := Lib.hid (hk7)
  clear ho97 hC7 hk7
  clear hb9
  go_wp2_with fail
  have HLo := Lib.hid (C_openb (show Kd.bool.C w9 A1 (bitsL x N).length (bitsL x N) from by rw [bitsL_len]; exact HL.out)).2
  have HGo := Lib.hid (C_open HGN.out).2
  have hgl := gone_le x N
  have hN64 := HG.out.2.2.1
  go_loop [17, 18] (fun v17 v18 => ∃ j : Nat, v18 = .int .i64 j ∧ v17 = .int .i64 ((gone x j).length) ∧ j ≤ N) (fun _ v18 => N - (intOf v18).toNat)
  case atStart => exact ⟨0, rfl, by simp [gone], Nat.zero_le _⟩
  case round =>
    obtain ⟨j, rfl, rfl, hj⟩ := hrel
    by_cases hlt : j < N
    · have hbl : (bitsL x N).getD j false = x.testBit j := by simp [bitsL, hlt]
      rcases HLo.out with e | ⟨bk, off, rfl, _, hcells⟩
      · exact absurd (congrArg List.length e) (by rw [bitsL_len]; simp; omega)
      have k0 := hcells j (by rw [bitsL_len]; exact hlt)
      rw [hbl] at k0
      have hgj := gone_le x j
      clear hcells hbl
      cases hb : x.testBit j
      · rw [hb] at k0
        obtain ⟨hg1, hg2⟩ := gone_at hb hlt
        rcases HGo.out with e | ⟨bg, og, rfl, _, hgc⟩
        · rw [e] at hg1; simp at hg1
        have k1 := hgc _ hg1
        rw [hg2] at k1
        have t1 : decide ((gone x N).length ≤ (gone x j).length) = false := by simp; omega
        have t2 : decide (((gone x N).length : Int) ≤ ((gone x j).length : Int)) = false := by simp; omega
        have hnx : (gone x (j + 1)).length = (gone x j).length + 1 := by rw [gone_no hb]; simp
        clear hgc hg2
        generalize (gone x j).length = gj at *
        have HNX := Lib.hid hnx
        clear hnx
        go_wp2
        go_round
        case rel => exact ⟨j + 1, by go_num, by rw [HNX.out]; go_num, by omega⟩
        case measure => simp [intOf]; omega
      · rw [hb] at k0
        have HNX := Lib.hid (congrArg List.length (gone_yes hb))
        go_wp2
        go_round
        case rel => exact ⟨j + 1, by go_num, by rw [HNX.out], by omega⟩
        case measure => simp [intOf]; omega
    · have hjN : j = N := by omega
      subst hjN
      clear hlt hj hgl HLo HGo
      have hi : (i < 0) ∨ (0 ≤ i ∧ (j : Int) ≤ i) ∨ (∃ t : Nat, i = t ∧ t < j ∧ x.testBit t = true) ∨ (∃ t : Nat, i = t ∧ t < j ∧ x.testBit t = false) := by
        by_cases a1 : i < 0
        · exact .inl a1
        by_cases a2 : (j : Int) ≤ i
        · exact .inr (.inl ⟨by omega, a2⟩)
        obtain ⟨t, rfl⟩ := Int.eq_ofNat_of_zero_le (show 0 ≤ i by omega)
        cases hb : x.testBit t
        · exact .inr (.inr (.inr ⟨t, rfl, by omega, hb⟩))
        · exact .inr (.inr (.inl ⟨t, rfl, by omega, hb⟩))
      have hs : (rgt m y = false) ∨ (rgt m y = true ∧ m ≠ (j : Int)) ∨ (rgt m y = true ∧ m = (j : Int)) := by
        cases rgt m y
        · exact .inl rfl
        · by_cases hm : m = (j : Int)
          · exact .inr (.inr ⟨rfl, hm⟩)
          · exact .inr (.inl ⟨rfl, hm⟩)
      have HS := Lib.hid hs
      clear hs
      rcases hi with hi | ⟨hi0, hi⟩ | ⟨t, rfl, ht, hbt⟩ | ⟨t, rfl, ht, hbt⟩
      · have hw := with_out HG.out.1 (i := i) (.inl hi)
        have he := HEW.out
        rw [hw.1] at he
        simp only [Prod.mk.injEq] at he
        obtain ⟨rfl, rfl, rfl⟩ := he
        have H10 := Lib.hid (fun w => H9.out false w hw.2)
        clear hw HEW
        have t1 : decide (i < 0) = true := by simpa using hi
        have t2 : decide (0 ≤ i) = false := by simp; omega
        have ha_0 := HA.out.c0
        have ha_1 := HA.out.c1
        go_wp2_with fail
        clear ha_0 ha_1
        refine (H6.out _).mono ?_
        rintro e w210 ⟨rfl, hb210⟩
        replace HB := Lib.hid (stay1 HB.out hb210)
        replace HA := Lib.hid (HA.out.below hb210)
        replace HO := Lib.hid (HO.out.below hb210)
        replace HL := Lib.hid (Kd.C_below HL.out hb210)
        replace HLR := Lib.hid (Kd.R_below HLR.out hb210)
        replace HK := Lib.hid (Kd.C_below HK.out hb210)
        replace HKR := Lib.hid (Kd.R_below HKR.out hb210)
        replace HW := Lib.hid (HW.out.below hb210)
        replace HX := Lib.hid (HX.out.below hb210)
        replace HGN := Lib.hid (Kd.C_below HGN.out hb210)
        clear hb210
        have ha_0 := HA.out.c0
        have ha_1 := HA.out.c1
        go_wp2_with fail
        clear ha_0 ha_1
        refine (H8.out _).mono ?_
        rintro e w211 ⟨rfl, hb211⟩
        replace HB := Lib.hid (stay1 HB.out hb211)
        replace HA := Lib.hid (HA.out.below hb211)
        replace HO := Lib.hid (HO.out.below hb211)
        replace HL := Lib.hid (Kd.C_below HL.out hb211)
        replace HLR := Lib.hid (Kd.R_below HLR.out hb211)
        replace HK := Lib.hid (Kd.C_below HK.out hb211)
        replace HKR := Lib.hid (Kd.R_below HKR.out hb211)
        replace HW := Lib.hid (HW.out.below hb211)
        replace HX := Lib.hid (HX.out.below hb211)
        replace HGN := Lib.hid (Kd.C_below HGN.out hb211)
        clear hb211
        have ha_0 := HA.out.c0
        have ha_1 := HA.out.c1
        go_wp2_with fail
        clear ha_0 ha_1
        refine (H10.out _).mono ?_
        rintro e w212 ⟨rfl, hb212⟩
        replace HB := Lib.hid (stay1 HB.out hb212)
        replace HA := Lib.hid (HA.out.below hb212)
        replace HO := Lib.hid (HO.out.below hb212)
        replace HL := Lib.hid (Kd.C_below HL.out hb212)
        replace HLR := Lib.hid (Kd.R_below HLR.out hb212)
        replace HK := Lib.hid (Kd.C_below HK.out hb212)
        replace HKR := Lib.hid (Kd.R_below HKR.out hb212)
        replace HW := Lib.hid (HW.out.below hb212)
        replace HX := Lib.hid (HX.out.below hb212)
        replace HGN := Lib.hid (Kd.C_below HGN.out hb212)
        clear hb212
        rcases HS.out with hs | ⟨hs, hm⟩ | ⟨hs, hm⟩
        · have ho := HEO.out
          rw [show orR (j : Int) x m y = (0, 0, 3) from by simp [orR, hs]] at ho
          simp only [Prod.mk.injEq] at ho
          obtain ⟨rfl, rfl, rfl⟩ := ho
          rw [hs]
          clear hs HS HEO
          go_wp2_with fail
          refine (alive_any _).mono ?_
          rintro e w253 ⟨rfl, hb253⟩
          replace HB := Lib.hid (stay1 HB.out hb253)
          replace HA := Lib.hid (HA.out.below hb253)
          replace HO := Lib.hid (HO.out.below hb253)
          replace HL := Lib.hid (Kd.C_below HL.out hb253)
          replace HLR := Lib.hid (Kd.R_below HLR.out hb253)
          replace HK := Lib.hid (Kd.C_below HK.out hb253)
          replace HKR := Lib.hid (Kd.R_below HKR.out hb253)
          replace HW := Lib.hid (HW.out.below hb253)
          replace HX := Lib.hid (HX.out.below hb253)
          replace HGN := Lib.hid (Kd.C_below HGN.out hb253)
          clear hb253
          go_wp2
          go_ret
          exact ⟨rfl, HB.out⟩
        · have ho := HEO.out
          obtain ⟨M, rfl⟩ : ∃ M : Nat, m = M := by
            have := (ofR_yes hs).2.2.1
            exact ⟨m.toNat, by omega⟩
          rw [show orR (j : Int) x (M : Int) y = (0, 0, 1) from by
            have hne : ((j : Int) == (M : Int)) = false := by simpa using fun e => hm e.symm
            simp only [orR, hs, HG.out.1, hne]; rfl] at ho
          simp only [Prod.mk.injEq] at ho
          obtain ⟨rfl, rfl, rfl⟩ := ho
          have hL2 : L2 = bitsL y M := by
            have := (ofR_yes hs).1
            rw [HE2.out] at this
            simpa using this
          subst hL2
          rw [hs, bitsL_len]
          have t9 : ((j : Int) != (M : Int)) = true := by simpa using fun e => hm (by omega)
          have t10 : (j != M) = true := by simpa using fun e => hm (by omega)
          clear hs HS HEO hm
          go_wp2_with fail
          refine (alive_any _).mono ?_
          rintro e w293 ⟨rfl, hb293⟩
          replace HB := Lib.hid (stay1 HB.out hb293)
          replace HA := Lib.hid (HA.out.below hb293)
          replace HO := Lib.hid (HO.out.below hb293)
          replace HL := Lib.hid (Kd.C_below HL.out hb293)
          replace HLR := Lib.hid (Kd.R_below HLR.out hb293)
          replace HK := Lib.hid (Kd.C_below HK.out hb293)
          replace HKR := Lib.hid (Kd.R_below HKR.out hb293)
          replace HW := Lib.hid (HW.out.below hb293)
          replace HX := Lib.hid (HX.out.below hb293)
          replace HGN := Lib.hid (Kd.C_below HGN.out hb293)
          clear hb293
          go_wp2
          go_ret
          exact ⟨rfl, HB.out⟩
        · have ho := HEO.out
          subst hm
          rw [show orR (j : Int) x (j : Int) y = ((j : Int), x ||| y, 0) from (or_yes HG.out.1 hs).1] at ho
          simp only [Prod.mk.injEq] at ho
          obtain ⟨rfl, rfl, rfl⟩ := ho
          have hL2 : L2 = bitsL y j := by
            have := (ofR_yes hs).1
            rw [HE2.out] at this
            simpa using this
          subst hL2
          rw [hs, bitsL_len]
          have HOR := Lib.hid (or_yes HG.out.1 hs)
          clear hs HS HEO
          go_wp2_with fail
          have HR0 := Lib.hid (show Kd.bool.R 4 w212 wc.heap.size (fun _ => True) (.slice _ j c1) (mixL x y j 0) from by rw [mixL_0]; have := HLR.out; rwa [bitsL_len] at this)
          have HK0 := Lib.hid (show Kd.bool.R 4 w212 w1.heap.size (fun k => w1.heap.size ≤ k) (.slice A2 j c2) (bitsL y j) from by have := HKR.out; rwa [bitsL_len] at this)
          go_loopg [19] (j + 1) (fun g v19 w' => ∃ q : Nat, v19 = .int .i64 q ∧ Hid (q ≤ j ∧ j < g + q) ∧ Hid (Kd.bool.R 4 w' wc.heap.size (fun _ => True) (.slice A1 j c1) (mixL x y j q)) ∧ Hid (Kd.bool.R 4 w' w1.heap.size (fun k => w1.heap.size ≤ k) (.slice A2 j c2) (bitsL y j)) ∧ Hid (At w6.heap.size j ((x ||| y : Nat) : Int) w') ∧ Hid (Below w.heap.size w w'))
          case atStart => exact ⟨0, rfl, Lib.hid ⟨by omega, by omega⟩, HR0, HK0, HX, HB⟩
          case round =>
            obtain ⟨q, rfl, HJ, HR, HKq, HXq, HBq⟩ := hrel
            cases gk with
            | zero => have := HJ.out; omega
            | succ g =>
              obtain ⟨hj1, hj2⟩ := HJ.out
              clear HJ
              by_cases hlt : q < j
              · obtain ⟨gb, cap, eform, hgB, hgs, _⟩ := Kd.R_form HR.out (by rw [mixL_len]; omega)
                injection eform with e1 e2 e3
                clear e2
                cases e1
                subst e3
                have hR : Kd.bool.R 4 wr wc.heap.size (fun _ => True) (.slice (some ⟨gb, 0, none⟩) (mixL x y j q).length c1) (mixL x y j q) := by rw [mixL_len]; exact HR.out
                obtain ⟨k0, kf⟩ := Kd.R_cell false hR (q : Int) (by omega) (by rw [mixL_len]; omega)
                rw [mixL_get x y j q hlt, Int.toNat_natCast] at k0
                rw [Int.toNat_natCast] at kf
                have hCk : Kd.bool.C wr A2 j (bitsL y j) := by
                  have := (Kd.R_reads' HKq.out).2.2
                  rwa [bitsL_len] at this
                obtain ⟨bk2, off2, rfl⟩ := A_some hCk hlt
                have k1 := C_cellb hCk hlt
                have hset := mixL_set x y j q
                have hgl := HLT.out gb rfl
                have hne : ∀ b : Bool, Kd.bool.R 4 (wr.setCell ⟨gb, q, none⟩ (.bool b)) w1.heap.size (fun k => w1.heap.size ≤ k) (.slice (some ⟨bk2, off2, none⟩) j c2) (bitsL y j) := fun b => Kd.R_far (p := ⟨gb, q, none⟩) HKq.out (fun k hk => by show k ≠ gb; omega) _
                have hst : ∀ b : Bool, Kd.bool.R 4 (wr.setCell ⟨gb, q, none⟩ (.bool b)) wc.heap.size (fun _ => True) (.slice (some ⟨gb, 0, none⟩) j c1) ((mixL x y j q).set q b) := fun b => by
                  have := boolset hR q b
                  rwa [mixL_len] at this
                have hxx : ∀ b : Bool, At w6.heap.size j ((x ||| y : Nat) : Int) (wr.setCell ⟨gb, q, none⟩ (.bool b)) := fun b => HXq.out.row hR q _
                have hbb : ∀ b : Bool, Below w.heap.size w (wr.setCell ⟨gb, q, none⟩ (.bool b)) := fun b => HBq.out.setCell (p := ⟨gb, q, none⟩) (Nat.le_trans HWC.out hgB) _
                have HSET := Lib.hid hset
                have HNE := Lib.hid hne
                have HST := Lib.hid hst
                have HXX := Lib.hid hxx
                have HBB := Lib.hid hbb
                clear hset hne hst hxx hbb hCk hR hgl hgs
                generalize x.testBit q = b1 at k0 HSET
                generalize y.testBit q = b2 at k1 HSET
                cases b1
                all_goals cases b2
                all_goals
                  go_wp2
                  go_roundg g
                  case measure => omega
                  case rel => exact ⟨q + 1, by go_num, Lib.hid ⟨by omega, by omega⟩, Lib.hid (by rw [← HSET.out]; exact HST.out _), HNE.out _, HXX.out _, HBB.out _⟩
              · have hq : q = j := by omega
                subst hq
                rw [mixL_end] at HR
                have HC := Lib.hid (show Kd.bool.C wr A1 q (bitsL (x ||| y) q) from by
                  have := (Kd.R_reads' HR.out).2.2
                  rwa [bitsL_len] at this)
                clear HR HKq
                go_wp2_with fail
                refine (alive_any _).mono ?_
                rintro e wz ⟨rfl, hbz⟩
                have HBz := Lib.hid (stay1 HBq.out hbz)
                have q0 := (HXq.out.below hbz).c0
                have q1 := (HXq.out.below hbz).c1
                have HCz := Lib.hid (Kd.C_below HC.out hbz)
                clear hbz
                go_wp2_with fail
                refine (same_is q (x ||| y) _ c1 _ HCz.out HOR.out.2).mono ?_
                rintro e wy ⟨rfl, hby⟩
                have HBy := Lib.hid (stay1 HBz.out hby)
                clear hby
                go_wp2
                go_ret
                exact ⟨rfl, HBy.out⟩
      · have hw := with_out HG.out.1 (i := i) (.inr hi)
        have he := HEW.out
        rw [hw.1] at he
        simp only [Prod.mk.injEq] at he
        obtain ⟨rfl, rfl, rfl⟩ := he
        have H10 := Lib.hid (fun w => H9.out false w hw.2)
        clear hw HEW
        have t1 : decide (i < 0) = false := by simp; omega
        have t2 : decide (0 ≤ i) = true := by simp; omega
        have t3 : decide (i < (j : Int)) = false := by simp; omega
        have t4 : decide ((j : Int) ≤ i) = true := by simpa using hi
        have ha_0 := HA.out.c0
        have ha_1 := HA.out.c1
        go_wp2_with fail
        clear ha_0 ha_1
        refine (H6.out _).mono ?_
        rintro e w410 ⟨rfl, hb410⟩
        replace HB := Lib.hid (stay1 HB.out hb410)
        replace HA := Lib.hid (HA.out.below hb410)
        replace HO := Lib.hid (HO.out.below hb410)
        replace HL := Lib.hid (Kd.C_below HL.out hb410)
        replace HLR := Lib.hid (Kd.R_below HLR.out hb410)
        replace HK := Lib.hid (Kd.C_below HK.out hb410)
        replace HKR := Lib.hid (Kd.R_below HKR.out hb410)
        replace HW := Lib.hid (HW.out.below hb410)
        replace HX := Lib.hid (HX.out.below hb410)
        replace HGN := Lib.hid (Kd.C_below HGN.out hb410)
        clear hb410
        have ha_0 := HA.out.c0
        have ha_1 := HA.out.c1
        go_wp2_with fail
        clear ha_0 ha_1
        refine (H8.out _).mono ?_
        rintro e w411 ⟨rfl, hb411⟩
        replace HB := Lib.hid (stay1 HB.out hb411)
        replace HA := Lib.hid (HA.out.below hb411)
        replace HO := Lib.hid (HO.out.below hb411)
        replace HL := Lib.hid (Kd.C_below HL.out hb411)
        replace HLR := Lib.hid (Kd.R_below HLR.out hb411)
        replace HK := Lib.hid (Kd.C_below HK.out hb411)
        replace HKR := Lib.hid (Kd.R_below HKR.out hb411)
        replace HW := Lib.hid (HW.out.below hb411)
        replace HX := Lib.hid (HX.out.below hb411)
        replace HGN := Lib.hid (Kd.C_below HGN.out hb411)
        clear hb411
        have ha_0 := HA.out.c0
        have ha_1 := HA.out.c1
        go_wp2_with fail
        clear ha_0 ha_1
        refine (H10.out _).mono ?_
        rintro e w412 ⟨rfl, hb412⟩
        replace HB := Lib.hid (stay1 HB.out hb412)
        replace HA := Lib.hid (HA.out.below hb412)
        replace HO := Lib.hid (HO.out.below hb412)
        replace HL := Lib.hid (Kd.C_below HL.out hb412)
        replace HLR := Lib.hid (Kd.R_below HLR.out hb412)
        replace HK := Lib.hid (Kd.C_below HK.out hb412)
        replace HKR := Lib.hid (Kd.R_below HKR.out hb412)
        replace HW := Lib.hid (HW.out.below hb412)
        replace HX := Lib.hid (HX.out.below hb412)
        replace HGN := Lib.hid (Kd.C_below HGN.out hb412)
        clear hb412
        rcases HS.out with hs | ⟨hs, hm⟩ | ⟨hs, hm⟩
        · have ho := HEO.out
          rw [show orR (j : Int) x m y = (0, 0, 3) from by simp [orR, hs]] at ho
          simp only [Prod.mk.injEq] at ho
          obtain ⟨rfl, rfl, rfl⟩ := ho
          rw [hs]
          clear hs HS HEO
          go_wp2_with fail
          refine (alive_any _).mono ?_
          rintro e w453 ⟨rfl, hb453⟩
          replace HB := Lib.hid (stay1 HB.out hb453)
          replace HA := Lib.hid (HA.out.below hb453)
          replace HO := Lib.hid (HO.out.below hb453)
          replace HL := Lib.hid (Kd.C_below HL.out hb453)
          replace HLR := Lib.hid (Kd.R_below HLR.out hb453)
          replace HK := Lib.hid (Kd.C_below HK.out hb453)
          replace HKR := Lib.hid (Kd.R_below HKR.out hb453)
          replace HW := Lib.hid (HW.out.below hb453)
          replace HX := Lib.hid (HX.out.below hb453)
          replace HGN := Lib.hid (Kd.C_below HGN.out hb453)
          clear hb453
          go_wp2
          go_ret
          exact ⟨rfl, HB.out⟩
        · have ho := HEO.out
          obtain ⟨M, rfl⟩ : ∃ M : Nat, m = M := by
            have := (ofR_yes hs).2.2.1
            exact ⟨m.toNat, by omega⟩
          rw [show orR (j : Int) x (M : Int) y = (0, 0, 1) from by
            have hne : ((j : Int) == (M : Int)) = false := by simpa using fun e => hm e.symm
            simp only [orR, hs, HG.out.1, hne]; rfl] at ho
          simp only [Prod.mk.injEq] at ho
          obtain ⟨rfl, rfl, rfl⟩ := ho
          have hL2 : L2 = bitsL y M := by
            have := (ofR_yes hs).1
            rw [HE2.out] at this
            simpa using this
          subst hL2
          rw [hs, bitsL_len]
          have t9 : ((j : Int) != (M : Int)) = true := by simpa using fun e => hm (by omega)
          have t10 : (j != M) = true := by simpa using fun e => hm (by omega)
          clear hs HS HEO hm
          go_wp2_with fail
          refine (alive_any _).mono ?_
          rintro e w493 ⟨rfl, hb493⟩
          replace HB := Lib.hid (stay1 HB.out hb493)
          replace HA := Lib.hid (HA.out.below hb493)
          replace HO := Lib.hid (HO.out.below hb493)
          replace HL := Lib.hid (Kd.C_below HL.out hb493)
          replace HLR := Lib.hid (Kd.R_below HLR.out hb493)
          replace HK := Lib.hid (Kd.C_below HK.out hb493)
          replace HKR := Lib.hid (Kd.R_below HKR.out hb493)
          replace HW := Lib.hid (HW.out.below hb493)
          replace HX := Lib.hid (HX.out.below hb493)
          replace HGN := Lib.hid (Kd.C_below HGN.out hb493)
          clear hb493
          go_wp2
          go_ret
          exact ⟨rfl, HB.out⟩
        · have ho := HEO.out
          subst hm
          rw [show orR (j : Int) x (j : Int) y = ((j : Int), x ||| y, 0) from (or_yes HG.out.1 hs).1] at ho
          simp only [Prod.mk.injEq] at ho
          obtain ⟨rfl, rfl, rfl⟩ := ho
          have hL2 : L2 = bitsL y j := by
            have := (ofR_yes hs).1
            rw [HE2.out] at this
            simpa using this
          subst hL2
          rw [hs, bitsL_len]
          have HOR := Lib.hid (or_yes HG.out.1 hs)
          clear hs HS HEO
          go_wp2_with fail
          have HR0 := Lib.hid (show Kd.bool.R 4 w412 wc.heap.size (fun _ => True) (.slice _ j c1) (mixL x y j 0) from by rw [mixL_0]; have := HLR.out; rwa [bitsL_len] at this)
          have HK0 := Lib.hid (show Kd.bool.R 4 w412 w1.heap.size (fun k => w1.heap.size ≤ k) (.slice A2 j c2) (bitsL y j) from by have := HKR.out; rwa [bitsL_len] at this)
          go_loopg [19] (j + 1) (fun g v19 w' => ∃ q : Nat, v19 = .int .i64 q ∧ Hid (q ≤ j ∧ j < g + q) ∧ Hid (Kd.bool.R 4 w' wc.heap.size (fun _ => True) (.slice A1 j c1) (mixL x y j q)) ∧ Hid (Kd.bool.R 4 w' w1.heap.size (fun k => w1.heap.size ≤ k) (.slice A2 j c2) (bitsL y j)) ∧ Hid (At w6.heap.size j ((x ||| y : Nat) : Int) w') ∧ Hid (Below w.heap.size w w'))
          case atStart => exact ⟨0, rfl, Lib.hid ⟨by omega, by omega⟩, HR0, HK0, HX, HB⟩
          case round =>
            obtain ⟨q, rfl, HJ, HR, HKq, HXq, HBq⟩ := hrel
            cases gk with
            | zero => have := HJ.out; omega
            | succ g =>
              obtain ⟨hj1, hj2⟩ := HJ.out
              clear HJ
              by_cases hlt : q < j
              · obtain ⟨gb, cap, eform, hgB, hgs, _⟩ := Kd.R_form HR.out (by rw [mixL_len]; omega)
                injection eform with e1 e2 e3
                clear e2
                cases e1
                subst e3
                have hR : Kd.bool.R 4 wr wc.heap.size (fun _ => True) (.slice (some ⟨gb, 0, none⟩) (mixL x y j q).length c1) (mixL x y j q) := by rw [mixL_len]; exact HR.out
                obtain ⟨k0, kf⟩ := Kd.R_cell false hR (q : Int) (by omega) (by rw [mixL_len]; omega)
                rw [mixL_get x y j q hlt, Int.toNat_natCast] at k0
                rw [Int.toNat_natCast] at kf
                have hCk : Kd.bool.C wr A2 j (bitsL y j) := by
                  have := (Kd.R_reads' HKq.out).2.2
                  rwa [bitsL_len] at this
                obtain ⟨bk2, off2, rfl⟩ := A_some hCk hlt
                have k1 := C_cellb hCk hlt
                have hset := mixL_set x y j q
                have hgl := HLT.out gb rfl
                have hne : ∀ b : Bool, Kd.bool.R 4 (wr.setCell ⟨gb, q, none⟩ (.bool b)) w1.heap.size (fun k => w1.heap.size ≤ k) (.slice (some ⟨bk2, off2, none⟩) j c2) (bitsL y j) := fun b => Kd.R_far (p := ⟨gb, q, none⟩) HKq.out (fun k hk => by show k ≠ gb; omega) _
                have hst : ∀ b : Bool, Kd.bool.R 4 (wr.setCell ⟨gb, q, none⟩ (.bool b)) wc.heap.size (fun _ => True) (.slice (some ⟨gb, 0, none⟩) j c1) ((mixL x y j q).set q b) := fun b => by
                  have := boolset hR q b
                  rwa [mixL_len] at this
                have hxx : ∀ b : Bool, At w6.heap.size j ((x ||| y : Nat) : Int) (wr.setCell ⟨gb, q, none⟩ (.bool b)) := fun b => HXq.out.row hR q _
                have hbb : ∀ b : Bool, Below w.heap.size w (wr.setCell ⟨gb, q, none⟩ (.bool b)) := fun b => HBq.out.setCell (p := ⟨gb, q, none⟩) (Nat.le_trans HWC.out hgB) _
                have HSET := Lib.hid hset
                have HNE := Lib.hid hne
                have HST := Lib.hid hst
                have HXX := Lib.hid hxx
                have HBB := Lib.hid hbb
                clear hset hne hst hxx hbb hCk hR hgl hgs
                generalize x.testBit q = b1 at k0 HSET
                generalize y.testBit q = b2 at k1 HSET
                cases b1
                all_goals cases b2
                all_goals
                  go_wp2
                  go_roundg g
                  case measure => omega
                  case rel => exact ⟨q + 1, by go_num, Lib.hid ⟨by omega, by omega⟩, Lib.hid (by rw [← HSET.out]; exact HST.out _), HNE.out _, HXX.out _, HBB.out _⟩
              · have hq : q = j := by omega
                subst hq
                rw [mixL_end] at HR
                have HC := Lib.hid (show Kd.bool.C wr A1 q (bitsL (x ||| y) q) from by
                  have := (Kd.R_reads' HR.out).2.2
                  rwa [bitsL_len] at this)
                clear HR HKq
                go_wp2_with fail
                refine (alive_any _).mono ?_
                rintro e wz ⟨rfl, hbz⟩
                have HBz := Lib.hid (stay1 HBq.out hbz)
                have q0 := (HXq.out.below hbz).c0
                have q1 := (HXq.out.below hbz).c1
                have HCz := Lib.hid (Kd.C_below HC.out hbz)
                clear hbz
                go_wp2_with fail
                refine (same_is q (x ||| y) _ c1 _ HCz.out HOR.out.2).mono ?_
                rintro e wy ⟨rfl, hby⟩
                have HBy := Lib.hid (stay1 HBz.out hby)
                clear hby
                go_wp2
                go_ret
                exact ⟨rfl, HBy.out⟩
      · have hw := with_in HG.out.1 (j := t) (by omega)
        have he := HEW.out
        rw [hw.1] at he
        simp only [Prod.mk.injEq] at he
        obtain ⟨rfl, rfl, rfl⟩ := he
        have hx2 := (pos_nat hw.2.1).1
        have hx3 : x ||| 2 ^ t < 2 ^ 64 := Nat.lt_of_lt_of_le hx2 (Nat.pow_le_pow_right (by decide) HG.out.2.2.1)
        have hc2 : (pcB j x : Int) ≤ pcB 64 (x ||| 2 ^ t) := by
          rw [pcB_64 hw.2.1, Int.toNat_natCast]
          have := (pcB_or j x (2 ^ t)).1
          omega
        have hh : hasB (j : Int) x (t : Int) = true := by
          simp [hasB, HG.out.1, ht, hbt]
        have H10 := Lib.hid (fun w => H9.out true w hh)
        clear hh
        have H11 := Lib.hid (fun w => has_is (j : Int) (x ||| 2 ^ t) t true w hx3 hw.2.2)
        have H12 := Lib.hid (fun w => count_is (j : Int) (x ||| 2 ^ t) (pcB 64 (x ||| 2 ^ t)) w hx3 (by rw [hw.2.1, if_pos rfl]))
        have t1 : decide ((t : Int) < (j : Int)) = true := by simp; omega
        have t2 : decide ((j : Int) ≤ (t : Int)) = false := by simp; omega
        have t3 : decide (t < j) = true := by simpa using ht
        have t4 : decide (j ≤ t) = false := by simp; omega
        have t5 : decide ((pcB 64 (x ||| 2 ^ t) : Int) < (pcB j x : Int)) = false := by simp; omega
        have t6 : decide (pcB 64 (x ||| 2 ^ t) < pcB j x) = false := by simp; omega
        rw [or_bit_self hbt] at H11 H12 HW t5 t6
        rw [or_bit_self hbt]
        obtain ⟨bk, off, rfl⟩ := A_some HL.out ht
        have HT := Lib.hid (show t < j from ht)
        have HBT := Lib.hid hbt
        clear hw HEW hx2 hx3 hc2 ht hbt
        have ha_0 := HA.out.c0
        have ha_1 := HA.out.c1
        go_wp2_with fail
        clear ha_0 ha_1
        refine (H6.out _).mono ?_
        rintro e w610 ⟨rfl, hb610⟩
        replace HB := Lib.hid (stay1 HB.out hb610)
        replace HA := Lib.hid (HA.out.below hb610)
        replace HO := Lib.hid (HO.out.below hb610)
        replace HL := Lib.hid (Kd.C_below HL.out hb610)
        replace HLR := Lib.hid (Kd.R_below HLR.out hb610)
        replace HK := Lib.hid (Kd.C_below HK.out hb610)
        replace HKR := Lib.hid (Kd.R_below HKR.out hb610)
        replace HW := Lib.hid (HW.out.below hb610)
        replace HX := Lib.hid (HX.out.below hb610)
        replace HGN := Lib.hid (Kd.C_below HGN.out hb610)
        clear hb610
        have ha_0 := HA.out.c0
        have ha_1 := HA.out.c1
        go_wp2_with fail
        clear ha_0 ha_1
        refine (H8.out _).mono ?_
        rintro e w611 ⟨rfl, hb611⟩
        replace HB := Lib.hid (stay1 HB.out hb611)
        replace HA := Lib.hid (HA.out.below hb611)
        replace HO := Lib.hid (HO.out.below hb611)
        replace HL := Lib.hid (Kd.C_below HL.out hb611)
        replace HLR := Lib.hid (Kd.R_below HLR.out hb611)
        replace HK := Lib.hid (Kd.C_below HK.out hb611)
        replace HKR := Lib.hid (Kd.R_below HKR.out hb611)
        replace HW := Lib.hid (HW.out.below hb611)
        replace HX := Lib.hid (HX.out.below hb611)
        replace HGN := Lib.hid (Kd.C_below HGN.out hb611)
        clear hb611
        have ha_0 := HA.out.c0
        have ha_1 := HA.out.c1
        go_wp2_with fail
        clear ha_0 ha_1
        refine (H10.out _).mono ?_
        rintro e w612 ⟨rfl, hb612⟩
        replace HB := Lib.hid (stay1 HB.out hb612)
        replace HA := Lib.hid (HA.out.below hb612)
        replace HO := Lib.hid (HO.out.below hb612)
        replace HL := Lib.hid (Kd.C_below HL.out hb612)
        replace HLR := Lib.hid (Kd.R_below HLR.out hb612)
        replace HK := Lib.hid (Kd.C_below HK.out hb612)
        replace HKR := Lib.hid (Kd.R_below HKR.out hb612)
        replace HW := Lib.hid (HW.out.below hb612)
        replace HX := Lib.hid (HX.out.below hb612)
        replace HGN := Lib.hid (Kd.C_below HGN.out hb612)
        clear hb612
        have hw_0 := HW.out.c0
        have hw_1 := HW.out.c1
        have kl := C_cellb HL.out HT.out
        rw [HBT.out] at kl
        go_wp2_with fail
        clear hw_0 hw_1
        refine (H11.out _).mono ?_
        rintro e w613 ⟨rfl, hb613⟩
        replace HB := Lib.hid (stay1 HB.out hb613)
        replace HA := Lib.hid (HA.out.below hb613)
        replace HO := Lib.hid (HO.out.below hb613)
        replace HL := Lib.hid (Kd.C_below HL.out hb613)
        replace HLR := Lib.hid (Kd.R_below HLR.out hb613)
        replace HK := Lib.hid (Kd.C_below HK.out hb613)
        replace HKR := Lib.hid (Kd.R_below HKR.out hb613)
        replace HW := Lib.hid (HW.out.below hb613)
        replace HX := Lib.hid (HX.out.below hb613)
        replace HGN := Lib.hid (Kd.C_below HGN.out hb613)
        clear hb613
        have hw_0 := HW.out.c0
        have hw_1 := HW.out.c1
        clear kl
        go_wp2_with fail
        clear hw_0 hw_1
        refine (H12.out _).mono ?_
        rintro e w614 ⟨rfl, hb614⟩
        replace HB := Lib.hid (stay1 HB.out hb614)
        replace HA := Lib.hid (HA.out.below hb614)
        replace HO := Lib.hid (HO.out.below hb614)
        replace HL := Lib.hid (Kd.C_below HL.out hb614)
        replace HLR := Lib.hid (Kd.R_below HLR.out hb614)
        replace HK := Lib.hid (Kd.C_below HK.out hb614)
        replace HKR := Lib.hid (Kd.R_below HKR.out hb614)
        replace HW := Lib.hid (HW.out.below hb614)
        replace HX := Lib.hid (HX.out.below hb614)
        replace HGN := Lib.hid (Kd.C_below HGN.out hb614)
        clear hb614
        have kl := C_cellb HL.out HT.out
        rw [HBT.out] at kl
        rcases HS.out with hs | ⟨hs, hm⟩ | ⟨hs, hm⟩
        · have ho := HEO.out
          rw [show orR (j : Int) x m y = (0, 0, 3) from by simp [orR, hs]] at ho
          simp only [Prod.mk.injEq] at ho
          obtain ⟨rfl, rfl, rfl⟩ := ho
          rw [hs]
          clear hs HS HEO
          have ha_0 := HA.out.c0
          have ha_1 := HA.out.c1
          have hw_0 := HW.out.c0
          have hw_1 := HW.out.c1
          go_wp2_with fail
          clear ha_0 ha_1 hw_0 hw_1
          refine (alive_any _).mono ?_
          rintro e w655 ⟨rfl, hb655⟩
          replace HB := Lib.hid (stay1 HB.out hb655)
          replace HA := Lib.hid (HA.out.below hb655)
          replace HO := Lib.hid (HO.out.below hb655)
          replace HL := Lib.hid (Kd.C_below HL.out hb655)
          replace HLR := Lib.hid (Kd.R_below HLR.out hb655)
          replace HK := Lib.hid (Kd.C_below HK.out hb655)
          replace HKR := Lib.hid (Kd.R_below HKR.out hb655)
          replace HW := Lib.hid (HW.out.below hb655)
          replace HX := Lib.hid (HX.out.below hb655)
          replace HGN := Lib.hid (Kd.C_below HGN.out hb655)
          clear hb655
          go_wp2
          go_ret
          exact ⟨rfl, HB.out⟩
        · have ho := HEO.out
          obtain ⟨M, rfl⟩ : ∃ M : Nat, m = M := by
            have := (ofR_yes hs).2.2.1
            exact ⟨m.toNat, by omega⟩
          rw [show orR (j : Int) x (M : Int) y = (0, 0, 1) from by
            have hne : ((j : Int) == (M : Int)) = false := by simpa using fun e => hm e.symm
            simp only [orR, hs, HG.out.1, hne]; rfl] at ho
          simp only [Prod.mk.injEq] at ho
          obtain ⟨rfl, rfl, rfl⟩ := ho
          have hL2 : L2 = bitsL y M := by
            have := (ofR_yes hs).1
            rw [HE2.out] at this
            simpa using this
          subst hL2
          rw [hs, bitsL_len]
          have t9 : ((j : Int) != (M : Int)) = true := by simpa using fun e => hm (by omega)
          have t10 : (j != M) = true := by simpa using fun e => hm (by omega)
          clear hs HS HEO hm
          have ha_0 := HA.out.c0
          have ha_1 := HA.out.c1
          have hw_0 := HW.out.c0
          have hw_1 := HW.out.c1
          go_wp2_with fail
          clear ha_0 ha_1 hw_0 hw_1
          refine (alive_any _).mono ?_
          rintro e w695 ⟨rfl, hb695⟩
          replace HB := Lib.hid (stay1 HB.out hb695)
          replace HA := Lib.hid (HA.out.below hb695)
          replace HO := Lib.hid (HO.out.below hb695)
          replace HL := Lib.hid (Kd.C_below HL.out hb695)
          replace HLR := Lib.hid (Kd.R_below HLR.out hb695)
          replace HK := Lib.hid (Kd.C_below HK.out hb695)
          replace HKR := Lib.hid (Kd.R_below HKR.out hb695)
          replace HW := Lib.hid (HW.out.below hb695)
          replace HX := Lib.hid (HX.out.below hb695)
          replace HGN := Lib.hid (Kd.C_below HGN.out hb695)
          clear hb695
          go_wp2
          go_ret
          exact ⟨rfl, HB.out⟩
        · have ho := HEO.out
          subst hm
          rw [show orR (j : Int) x (j : Int) y = ((j : Int), x ||| y, 0) from (or_yes HG.out.1 hs).1] at ho
          simp only [Prod.mk.injEq] at ho
          obtain ⟨rfl, rfl, rfl⟩ := ho
          have hL2 : L2 = bitsL y j := by
            have := (ofR_yes hs).1
            rw [HE2.out] at this
            simpa using this
          subst hL2
          rw [hs, bitsL_len]
          have HOR := Lib.hid (or_yes HG.out.1 hs)
          clear hs HS HEO
          have ha_0 := HA.out.c0
          have ha_1 := HA.out.c1
          have hw_0 := HW.out.c0
          have hw_1 := HW.out.c1
          go_wp2_with fail
          clear ha_0 ha_1 hw_0 hw_1
          have HR0 := Lib.hid (show Kd.bool.R 4 w614 wc.heap.size (fun _ => True) (.slice _ j c1) (mixL x y j 0) from by rw [mixL_0]; have := HLR.out; rwa [bitsL_len] at this)
          have HK0 := Lib.hid (show Kd.bool.R 4 w614 w1.heap.size (fun k => w1.heap.size ≤ k) (.slice A2 j c2) (bitsL y j) from by have := HKR.out; rwa [bitsL_len] at this)
          go_loopg [19] (j + 1) (fun g v19 w' => ∃ q : Nat, v19 = .int .i64 q ∧ Hid (q ≤ j ∧ j < g + q) ∧ Hid (Kd.bool.R 4 w' wc.heap.size (fun _ => True) (.slice (some ⟨bk, off, none⟩) j c1) (mixL x y j q)) ∧ Hid (Kd.bool.R 4 w' w1.heap.size (fun k => w1.heap.size ≤ k) (.slice A2 j c2) (bitsL y j)) ∧ Hid (At w6.heap.size j ((x ||| y : Nat) : Int) w') ∧ Hid (Below w.heap.size w w'))
          case atStart => exact ⟨0, rfl, Lib.hid ⟨by omega, by omega⟩, HR0, HK0, HX, HB⟩
          case round =>
            obtain ⟨q, rfl, HJ, HR, HKq, HXq, HBq⟩ := hrel
            cases gk with
            | zero => have := HJ.out; omega
            | succ g =>
              obtain ⟨hj1, hj2⟩ := HJ.out
              clear HJ
              by_cases hlt : q < j
              · obtain ⟨gb, cap, eform, hgB, hgs, _⟩ := Kd.R_form HR.out (by rw [mixL_len]; omega)
                injection eform with e1 e2 e3
                clear e2
                cases e1
                subst e3
                have hR : Kd.bool.R 4 wr wc.heap.size (fun _ => True) (.slice (some ⟨bk, 0, none⟩) (mixL x y j q).length c1) (mixL x y j q) := by rw [mixL_len]; exact HR.out
                obtain ⟨k0, kf⟩ := Kd.R_cell false hR (q : Int) (by omega) (by rw [mixL_len]; omega)
                rw [mixL_get x y j q hlt, Int.toNat_natCast] at k0
                rw [Int.toNat_natCast] at kf
                have hCk : Kd.bool.C wr A2 j (bitsL y j) := by
                  have := (Kd.R_reads' HKq.out).2.2
                  rwa [bitsL_len] at this
                obtain ⟨bk2, off2, rfl⟩ := A_some hCk hlt
                have k1 := C_cellb hCk hlt
                have hset := mixL_set x y j q
                have hgl := HLT.out bk rfl
                have hne : ∀ b : Bool, Kd.bool.R 4 (wr.setCell ⟨bk, q, none⟩ (.bool b)) w1.heap.size (fun k => w1.heap.size ≤ k) (.slice (some ⟨bk2, off2, none⟩) j c2) (bitsL y j) := fun b => Kd.R_far (p := ⟨bk, q, none⟩) HKq.out (fun k hk => by show k ≠ bk; omega) _
                have hst : ∀ b : Bool, Kd.bool.R 4 (wr.setCell ⟨bk, q, none⟩ (.bool b)) wc.heap.size (fun _ => True) (.slice (some ⟨bk, 0, none⟩) j c1) ((mixL x y j q).set q b) := fun b => by
                  have := boolset hR q b
                  rwa [mixL_len] at this
                have hxx : ∀ b : Bool, At w6.heap.size j ((x ||| y : Nat) : Int) (wr.setCell ⟨bk, q, none⟩ (.bool b)) := fun b => HXq.out.row hR q _
                have hbb : ∀ b : Bool, Below w.heap.size w (wr.setCell ⟨bk, q, none⟩ (.bool b)) := fun b => HBq.out.setCell (p := ⟨bk, q, none⟩) (Nat.le_trans HWC.out hgB) _
                have HSET := Lib.hid hset
                have HNE := Lib.hid hne
                have HST := Lib.hid hst
                have HXX := Lib.hid hxx
                have HBB := Lib.hid hbb
                clear hset hne hst hxx hbb hCk hR hgl hgs
                generalize x.testBit q = b1 at k0 HSET
                generalize y.testBit q = b2 at k1 HSET
                cases b1
                all_goals cases b2
                all_goals
                  go_wp2
                  go_roundg g
                  case measure => omega
                  case rel => exact ⟨q + 1, by go_num, Lib.hid ⟨by omega, by omega⟩, Lib.hid (by rw [← HSET.out]; exact HST.out _), HNE.out _, HXX.out _, HBB.out _⟩
              · have hq : q = j := by omega
                subst hq
                rw [mixL_end] at HR
                have HC := Lib.hid (show Kd.bool.C wr (some ⟨bk, off, none⟩) q (bitsL (x ||| y) q) from by
                  have := (Kd.R_reads' HR.out).2.2
                  rwa [bitsL_len] at this)
                clear HR HKq
                go_wp2_with fail
                refine (alive_any _).mono ?_
                rintro e wz ⟨rfl, hbz⟩
                have HBz := Lib.hid (stay1 HBq.out hbz)
                have q0 := (HXq.out.below hbz).c0
                have q1 := (HXq.out.below hbz).c1
                have HCz := Lib.hid (Kd.C_below HC.out hbz)
                clear hbz
                go_wp2_with fail
                refine (same_is q (x ||| y) _ c1 _ HCz.out HOR.out.2).mono ?_
                rintro e wy ⟨rfl, hby⟩
                have HBy := Lib.hid (stay1 HBz.out hby)
                clear hby
                go_wp2
                go_ret
                exact ⟨rfl, HBy.out⟩
      · have hw := with_in HG.out.1 (j := t) (by omega)
        have he := HEW.out
        rw [hw.1] at he
        simp only [Prod.mk.injEq] at he
        obtain ⟨rfl, rfl, rfl⟩ := he
        have hx2 := (pos_nat hw.2.1).1
        have hx3 : x ||| 2 ^ t < 2 ^ 64 := Nat.lt_of_lt_of_le hx2 (Nat.pow_le_pow_right (by decide) HG.out.2.2.1)
        have hc2 : (pcB j x : Int) ≤ pcB 64 (x ||| 2 ^ t) := by
          rw [pcB_64 hw.2.1, Int.toNat_natCast]
          have := (pcB_or j x (2 ^ t)).1
          omega
        have hh : hasB (j : Int) x (t : Int) = false := by
          simp [hasB, HG.out.1, ht, hbt]
        have H10 := Lib.hid (fun w => H9.out false w hh)
        clear hh
        have H11 := Lib.hid (fun w => has_is (j : Int) (x ||| 2 ^ t) t true w hx3 hw.2.2)
        have H12 := Lib.hid (fun w => count_is (j : Int) (x ||| 2 ^ t) (pcB 64 (x ||| 2 ^ t)) w hx3 (by rw [hw.2.1, if_pos rfl]))
        have t1 : decide ((t : Int) < (j : Int)) = true := by simp; omega
        have t2 : decide ((j : Int) ≤ (t : Int)) = false := by simp; omega
        have t3 : decide (t < j) = true := by simpa using ht
        have t4 : decide (j ≤ t) = false := by simp; omega
        have t5 : decide ((pcB 64 (x ||| 2 ^ t) : Int) < (pcB j x : Int)) = false := by simp; omega
        have t6 : decide (pcB 64 (x ||| 2 ^ t) < pcB j x) = false := by simp; omega
        obtain ⟨bk, off, rfl⟩ := A_some HL.out ht
        have HT := Lib.hid (show t < j from ht)
        have HBT := Lib.hid hbt
        clear hw HEW hx2 hx3 hc2 ht hbt
        have ha_0 := HA.out.c0
        have ha_1 := HA.out.c1
        go_wp2_with fail
        clear ha_0 ha_1
        refine (H6.out _).mono ?_
        rintro e w810 ⟨rfl, hb810⟩
        replace HB := Lib.hid (stay1 HB.out hb810)
        replace HA := Lib.hid (HA.out.below hb810)
        replace HO := Lib.hid (HO.out.below hb810)
        replace HL := Lib.hid (Kd.C_below HL.out hb810)
        replace HLR := Lib.hid (Kd.R_below HLR.out hb810)
        replace HK := Lib.hid (Kd.C_below HK.out hb810)
        replace HKR := Lib.hid (Kd.R_below HKR.out hb810)
        replace HW := Lib.hid (HW.out.below hb810)
        replace HX := Lib.hid (HX.out.below hb810)
        replace HGN := Lib.hid (Kd.C_below HGN.out hb810)
        clear hb810
        have ha_0 := HA.out.c0
        have ha_1 := HA.out.c1
        go_wp2_with fail
        clear ha_0 ha_1
        refine (H8.out _).mono ?_
        rintro e w811 ⟨rfl, hb811⟩
        replace HB := Lib.hid (stay1 HB.out hb811)
        replace HA := Lib.hid (HA.out.below hb811)
        replace HO := Lib.hid (HO.out.below hb811)
        replace HL := Lib.hid (Kd.C_below HL.out hb811)
        replace HLR := Lib.hid (Kd.R_below HLR.out hb811)
        replace HK := Lib.hid (Kd.C_below HK.out hb811)
        replace HKR := Lib.hid (Kd.R_below HKR.out hb811)
        replace HW := Lib.hid (HW.out.below hb811)
        replace HX := Lib.hid (HX.out.below hb811)
        replace HGN := Lib.hid (Kd.C_below HGN.out hb811)
        clear hb811
        have ha_0 := HA.out.c0
        have ha_1 := HA.out.c1
        go_wp2_with fail
        clear ha_0 ha_1
        refine (H10.out _).mono ?_
        rintro e w812 ⟨rfl, hb812⟩
        replace HB := Lib.hid (stay1 HB.out hb812)
        replace HA := Lib.hid (HA.out.below hb812)
        replace HO := Lib.hid (HO.out.below hb812)
        replace HL := Lib.hid (Kd.C_below HL.out hb812)
        replace HLR := Lib.hid (Kd.R_below HLR.out hb812)
        replace HK := Lib.hid (Kd.C_below HK.out hb812)
        replace HKR := Lib.hid (Kd.R_below HKR.out hb812)
        replace HW := Lib.hid (HW.out.below hb812)
        replace HX := Lib.hid (HX.out.below hb812)
        replace HGN := Lib.hid (Kd.C_below HGN.out hb812)
        clear hb812
        have hw_0 := HW.out.c0
        have hw_1 := HW.out.c1
        have kl := C_cellb HL.out HT.out
        rw [HBT.out] at kl
        go_wp2_with fail
        clear hw_0 hw_1
        refine (H11.out _).mono ?_
        rintro e w813 ⟨rfl, hb813⟩
        replace HB := Lib.hid (stay1 HB.out hb813)
        replace HA := Lib.hid (HA.out.below hb813)
        replace HO := Lib.hid (HO.out.below hb813)
        replace HL := Lib.hid (Kd.C_below HL.out hb813)
        replace HLR := Lib.hid (Kd.R_below HLR.out hb813)
        replace HK := Lib.hid (Kd.C_below HK.out hb813)
        replace HKR := Lib.hid (Kd.R_below HKR.out hb813)
        replace HW := Lib.hid (HW.out.below hb813)
        replace HX := Lib.hid (HX.out.below hb813)
        replace HGN := Lib.hid (Kd.C_below HGN.out hb813)
        clear hb813
        have hw_0 := HW.out.c0
        have hw_1 := HW.out.c1
        clear kl
        go_wp2_with fail
        clear hw_0 hw_1
        refine (H12.out _).mono ?_
        rintro e w814 ⟨rfl, hb814⟩
        replace HB := Lib.hid (stay1 HB.out hb814)
        replace HA := Lib.hid (HA.out.below hb814)
        replace HO := Lib.hid (HO.out.below hb814)
        replace HL := Lib.hid (Kd.C_below HL.out hb814)
        replace HLR := Lib.hid (Kd.R_below HLR.out hb814)
        replace HK := Lib.hid (Kd.C_below HK.out hb814)
        replace HKR := Lib.hid (Kd.R_below HKR.out hb814)
        replace HW := Lib.hid (HW.out.below hb814)
        replace HX := Lib.hid (HX.out.below hb814)
        replace HGN := Lib.hid (Kd.C_below HGN.out hb814)
        clear hb814
        have kl := C_cellb HL.out HT.out
        rw [HBT.out] at kl
        rcases HS.out with hs | ⟨hs, hm⟩ | ⟨hs, hm⟩
        · have ho := HEO.out
          rw [show orR (j : Int) x m y = (0, 0, 3) from by simp [orR, hs]] at ho
          simp only [Prod.mk.injEq] at ho
          obtain ⟨rfl, rfl, rfl⟩ := ho
          rw [hs]
          clear hs HS HEO
          have ha_0 := HA.out.c0
          have ha_1 := HA.out.c1
          have hw_0 := HW.out.c0
          have hw_1 := HW.out.c1
          go_wp2_with fail
          clear ha_0 ha_1 hw_0 hw_1
          refine (alive_any _).mono ?_
          rintro e w855 ⟨rfl, hb855⟩
          replace HB := Lib.hid (stay1 HB.out hb855)
          replace HA := Lib.hid (HA.out.below hb855)
          replace HO := Lib.hid (HO.out.below hb855)
          replace HL := Lib.hid (Kd.C_below HL.out hb855)
          replace HLR := Lib.hid (Kd.R_below HLR.out hb855)
          replace HK := Lib.hid (Kd.C_below HK.out hb855)
          replace HKR := Lib.hid (Kd.R_below HKR.out hb855)
          replace HW := Lib.hid (HW.out.below hb855)
          replace HX := Lib.hid (HX.out.below hb855)
          replace HGN := Lib.hid (Kd.C_below HGN.out hb855)
          clear hb855
          go_wp2
          go_ret
          exact ⟨rfl, HB.out⟩
        · have ho := HEO.out
          obtain ⟨M, rfl⟩ : ∃ M : Nat, m = M := by
            have := (ofR_yes hs).2.2.1
            exact ⟨m.toNat, by omega⟩
          rw [show orR (j : Int) x (M : Int) y = (0, 0, 1) from by
            have hne : ((j : Int) == (M : Int)) = false := by simpa using fun e => hm e.symm
            simp only [orR, hs, HG.out.1, hne]; rfl] at ho
          simp only [Prod.mk.injEq] at ho
          obtain ⟨rfl, rfl, rfl⟩ := ho
          have hL2 : L2 = bitsL y M := by
            have := (ofR_yes hs).1
            rw [HE2.out] at this
            simpa using this
          subst hL2
          rw [hs, bitsL_len]
          have t9 : ((j : Int) != (M : Int)) = true := by simpa using fun e => hm (by omega)
          have t10 : (j != M) = true := by simpa using fun e => hm (by omega)
          clear hs HS HEO hm
          have ha_0 := HA.out.c0
          have ha_1 := HA.out.c1
          have hw_0 := HW.out.c0
          have hw_1 := HW.out.c1
          go_wp2_with fail
          clear ha_0 ha_1 hw_0 hw_1
          refine (alive_any _).mono ?_
          rintro e w895 ⟨rfl, hb895⟩
          replace HB := Lib.hid (stay1 HB.out hb895)
          replace HA := Lib.hid (HA.out.below hb895)
          replace HO := Lib.hid (HO.out.below hb895)
          replace HL := Lib.hid (Kd.C_below HL.out hb895)
          replace HLR := Lib.hid (Kd.R_below HLR.out hb895)
          replace HK := Lib.hid (Kd.C_below HK.out hb895)
          replace HKR := Lib.hid (Kd.R_below HKR.out hb895)
          replace HW := Lib.hid (HW.out.below hb895)
          replace HX := Lib.hid (HX.out.below hb895)
          replace HGN := Lib.hid (Kd.C_below HGN.out hb895)
          clear hb895
          go_wp2
          go_ret
          exact ⟨rfl, HB.out⟩
        · have ho := HEO.out
          subst hm
          rw [show orR (j : Int) x (j : Int) y = ((j : Int), x ||| y, 0) from (or_yes HG.out.1 hs).1] at ho
          simp only [Prod.mk.injEq] at ho
          obtain ⟨rfl, rfl, rfl⟩ := ho
          have hL2 : L2 = bitsL y j := by
            have := (ofR_yes hs).1
            rw [HE2.out] at this
            simpa using this
          subst hL2
          rw [hs, bitsL_len]
          have HOR := Lib.hid (or_yes HG.out.1 hs)
          clear hs HS HEO
          have ha_0 := HA.out.c0
          have ha_1 := HA.out.c1
          have hw_0 := HW.out.c0
          have hw_1 := HW.out.c1
          go_wp2_with fail
          clear ha_0 ha_1 hw_0 hw_1
          have HR0 := Lib.hid (show Kd.bool.R 4 w814 wc.heap.size (fun _ => True) (.slice _ j c1) (mixL x y j 0) from by rw [mixL_0]; have := HLR.out; rwa [bitsL_len] at this)
          have HK0 := Lib.hid (show Kd.bool.R 4 w814 w1.heap.size (fun k => w1.heap.size ≤ k) (.slice A2 j c2) (bitsL y j) from by have := HKR.out; rwa [bitsL_len] at this)
          go_loopg [19] (j + 1) (fun g v19 w' => ∃ q : Nat, v19 = .int .i64 q ∧ Hid (q ≤ j ∧ j < g + q) ∧ Hid (Kd.bool.R 4 w' wc.heap.size (fun _ => True) (.slice (some ⟨bk, off, none⟩) j c1) (mixL x y j q)) ∧ Hid (Kd.bool.R 4 w' w1.heap.size (fun k => w1.heap.size ≤ k) (.slice A2 j c2) (bitsL y j)) ∧ Hid (At w6.heap.size j ((x ||| y : Nat) : Int) w') ∧ Hid (Below w.heap.size w w'))
          case atStart => exact ⟨0, rfl, Lib.hid ⟨by omega, by omega⟩, HR0, HK0, HX, HB⟩
          case round =>
            obtain ⟨q, rfl, HJ, HR, HKq, HXq, HBq⟩ := hrel
            cases gk with
            | zero => have := HJ.out; omega
            | succ g =>
              obtain ⟨hj1, hj2⟩ := HJ.out
              clear HJ
              by_cases hlt : q < j
              · obtain ⟨gb, cap, eform, hgB, hgs, _⟩ := Kd.R_form HR.out (by rw [mixL_len]; omega)
                injection eform with e1 e2 e3
                clear e2
                cases e1
                subst e3
                have hR : Kd.bool.R 4 wr wc.heap.size (fun _ => True) (.slice (some ⟨bk, 0, none⟩) (mixL x y j q).length c1) (mixL x y j q) := by rw [mixL_len]; exact HR.out
                obtain ⟨k0, kf⟩ := Kd.R_cell false hR (q : Int) (by omega) (by rw [mixL_len]; omega)
                rw [mixL_get x y j q hlt, Int.toNat_natCast] at k0
                rw [Int.toNat_natCast] at kf
                have hCk : Kd.bool.C wr A2 j (bitsL y j) := by
                  have := (Kd.R_reads' HKq.out).2.2
                  rwa [bitsL_len] at this
                obtain ⟨bk2, off2, rfl⟩ := A_some hCk hlt
                have k1 := C_cellb hCk hlt
                have hset := mixL_set x y j q
                have hgl := HLT.out bk rfl
                have hne : ∀ b : Bool, Kd.bool.R 4 (wr.setCell ⟨bk, q, none⟩ (.bool b)) w1.heap.size (fun k => w1.heap.size ≤ k) (.slice (some ⟨bk2, off2, none⟩) j c2) (bitsL y j) := fun b => Kd.R_far (p := ⟨bk, q, none⟩) HKq.out (fun k hk => by show k ≠ bk; omega) _
                have hst : ∀ b : Bool, Kd.bool.R 4 (wr.setCell ⟨bk, q, none⟩ (.bool b)) wc.heap.size (fun _ => True) (.slice (some ⟨bk, 0, none⟩) j c1) ((mixL x y j q).set q b) := fun b => by
                  have := boolset hR q b
                  rwa [mixL_len] at this
                have hxx : ∀ b : Bool, At w6.heap.size j ((x ||| y : Nat) : Int) (wr.setCell ⟨bk, q, none⟩ (.bool b)) := fun b => HXq.out.row hR q _
                have hbb : ∀ b : Bool, Below w.heap.size w (wr.setCell ⟨bk, q, none⟩ (.bool b)) := fun b => HBq.out.setCell (p := ⟨bk, q, none⟩) (Nat.le_trans HWC.out hgB) _
                have HSET := Lib.hid hset
                have HNE := Lib.hid hne
                have HST := Lib.hid hst
                have HXX := Lib.hid hxx
                have HBB := Lib.hid hbb
                clear hset hne hst hxx hbb hCk hR hgl hgs
                generalize x.testBit q = b1 at k0 HSET
                generalize y.testBit q = b2 at k1 HSET
                cases b1
                all_goals cases b2
                all_goals
                  go_wp2
                  go_roundg g
                  case measure => omega
                  case rel => exact ⟨q + 1, by go_num, Lib.hid ⟨by omega, by omega⟩, Lib.hid (by rw [← HSET.out]; exact HST.out _), HNE.out _, HXX.out _, HBB.out _⟩
              · have hq : q = j := by omega
                subst hq
                rw [mixL_end] at HR
                have HC := Lib.hid (show Kd.bool.C wr (some ⟨bk, off, none⟩) q (bitsL (x ||| y) q) from by
                  have := (Kd.R_reads' HR.out).2.2
                  rwa [bitsL_len] at this)
                clear HR HKq
                go_wp2_with fail
                refine (alive_any _).mono ?_
                rintro e wz ⟨rfl, hbz⟩
                have HBz := Lib.hid (stay1 HBq.out hbz)
                have q0 := (HXq.out.below hbz).c0
                have q1 := (HXq.out.below hbz).c1
                have HCz := Lib.hid (Kd.C_below HC.out hbz)
                clear hbz
                go_wp2_with fail
                refine (same_is q (x ||| y) _ c1 _ HCz.out HOR.out.2).mono ?_
                rintro e wy ⟨rfl, hby⟩
                have HBy := Lib.hid (stay1 HBz.out hby)
                clear hby
                go_wp2
                go_ret
                exact ⟨rfl, HBy.out⟩
end Go.Proofs.Ytigbmbmngkmdlaa.Bm
