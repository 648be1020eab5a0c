/-
  bitmap: the law BitmapFills, walked.
-/
import Derived.Test.YtigbmbmngkmdlaaBr
import Derived.Test.YtigbmbmngkmdlaaBv
namespace Go.Proofs.Ytigbmbmngkmdlaa.Bm
open Go.RowKit Go.Proofs.Ytigbmbmngkmdlaa.L Go.Proofs.Ytigbmbmngkmdlaa.Bt Go.Proofs.YtigbmbmngkmdlaaW.PrintWords

/-- an array of truths in memory -/
def Arr (b : Nat) (l : List Bool) (w : World) : Prop := w.heap[b]? = some (.cells (l.map Value.bool).toArray 86 (0, 0))
theorem Arr.lt {b : Nat} {l : List Bool} {w : World} (h : Arr b l w) : b < w.heap.size := (Array.getElem?_eq_some_iff.1 h).1
theorem Arr.below {b : Nat} {l : List Bool} {w w1 : World} (h : Arr b l w) (hb : Below w.heap.size w w1) : Arr b l w1 := (hb.block b h.lt).trans h
theorem Arr.get {b : Nat} {l : List Bool} {w : World} (h : Arr b l w) {j : Nat} (hj : j < l.length) : w.cell? ⟨b, j, none⟩ = some (.bool (l.getD j false)) := by
  simp [World.cell?, show w.heap[b]? = _ from h, hj]
theorem Arr.fr {b : Nat} {l : List Bool} {w : World} (h : Arr b l w) (j : Nat) : w.frozen? ⟨b, j, none⟩ = false := blk_frozen h j
theorem Arr.set {b : Nat} {l : List Bool} {w : World} (h : Arr b l w) (j : Nat) (v : Bool) : Arr b (l.set j v) (w.setCell ⟨b, j, none⟩ (.bool v)) := by
  have := blk_set h j (.bool v)
  unfold Arr
  rw [this]
  simp [List.map_set]
theorem Arr.far {b : Nat} {l : List Bool} {w : World} (h : Arr b l w) {p : Addr} (hp : b ≠ p.block) (u : Value) : Arr b l (w.setCell p u) := blk_far h hp u
theorem At.ne {b g : Nat} {n x : Int} {l : List Bool} {w : World} (h : At b n x w) (ha : Arr g l w) : b ≠ g := fun e => by
  subst e
  have ha' := ha
  unfold Arr at ha'
  rw [show w.heap[b]? = _ from h] at ha'
  injection ha' with ha'
  injection ha' with _ h2 _
  exact absurd h2 (by decide)
theorem At.c0set {b : Nat} {n x : Int} {w : World} (h : At b n x w) (m : Int) : At b m x (w.setCell ⟨b, 0, none⟩ (.int .i64 m)) := blk_set h 0 _
theorem bitsL_set {x k N : Nat} : (bitsL x N).set k true = bitsL (x ||| 2 ^ k) N := by
  apply List.ext_getElem (by simp [bitsL])
  intro i h1 h2
  rw [List.getElem_set]
  by_cases hk : k = i
  · subst hk
    simp [bitsL, Nat.testBit_or]
  · rw [if_neg hk]
    simp [bitsL, Nat.testBit_or, hk]
theorem pcB_top (i x : Nat) : pcB (i + 1) x = pcB i x + (x.testBit i).toNat := by
  have h0 : pcB i x = pcB i (x % 2 ^ i) := by
    have := pcB_add i 0 x
    simpa [pcB] using this
  rw [pcB_add i 1 x, ← h0]
  congr 1
  simp only [pcB, Nat.add_zero]
  rw [Nat.testBit_eq_decide_div_mod_eq]
  rcases Nat.mod_two_eq_zero_or_one (x / 2 ^ i) with h | h <;> rw [h] <;> rfl
theorem gone_pc (x : Nat) : ∀ N, pcB N x + (gone x N).length = N
  | 0 => by simp [pcB, gone]
  | N + 1 => by
    have ih := gone_pc x N
    rw [pcB_top]
    cases hb : x.testBit N
    · rw [gone_no hb]; simp; omega
    · rw [gone_yes hb]; simp; omega
theorem read_put {N x : Nat} (h : rgt N x = true) : readR (putM N x) = ((N : Int), x, 0) := by
  have hp := pos_nat h
  rw [putM_byts]
  unfold readR
  simp only
  have h1 : decide (64 < (N : Int)) = false := by simp; omega
  have h2 : asm (byts x ((N + 7) / 8)) = x := by
    rw [asm_byts, Nat.mod_eq_of_lt]
    exact Nat.lt_of_lt_of_le hp.1 (Nat.pow_le_pow_right (by decide) (by omega))
  have h3 : decide (((byts x ((N + 7) / 8)).length : Int) = ((N : Int) + 7) / 8) = true := by rw [byts_len]; simp
  rw [h1, h2, h3, h]
  simp
theorem and63 (k : Nat) (h : k < 256) : bits .and .u8 (k : Int) 63 = ((k % 64 : Nat) : Int) := by
  have := (bits_nat .u8 8 (by decide) (fun n h0 h1 => wraps_u8 n h0 (by omega)) k 63 (by omega) (by decide)).1
  rw [Nat.and_two_pow_sub_one_eq_mod k 6] at this
  exact this
theorem read_is (l : List Int) (A : Option Addr) (n c : Nat) (a : Int) (b : Nat) (w : World) (hn : l.length = n) (hC : (Kd.int .u8).C w A n l) (hc : n ≤ c) (hb : okB l) (h : readR l = (a, b, 0)) : Calls Try.prog 18 #[.slice A n c] w fun e w' => e = .returned (.tuple #[.agg #[.int .i64 a, .int .u64 b], .int .i64 0]) ∧ Below w.heap.size w w' := by
  subst hn
  have := read_any l A c w hC hc hb
  rwa [h] at this
theorem write_is (N x : Nat) (w : World) (hr : rgt N x = true) : Calls Try.prog 17 #[.agg #[.int .i64 N, .int .u64 x]] w fun e w' => ∃ v0 : Value, e = .returned (.tuple #[v0, .int .i64 0]) ∧ (Kd.int .u8).R 5 w' w.heap.size (fun _ => True) v0 (putM N x) ∧ Below w.heap.size w w' := write_ok N x w hr

set_option maxHeartbeats 12800000 in
set_option maxRecDepth 100000 in
theorem fills_walk (n8 : Nat) (l : List Int) (A : Option Addr) (c : Nat) (w : World) (hn8 : n8 < 256) (hC : (Kd.int .u8).C w A l.length l) (hb : okB l) :
    Calls Try.prog 11 #[.int .u8 n8, .slice A l.length c] w fun e w' => e = .returned (.bool true) ∧ Below w.heap.size w w' := by
  have hu := Try.underlying24
  have a63 := and63 n8 hn8
  obtain ⟨N, hN⟩ : ∃ N, n8 % 64 = N := ⟨_, rfl⟩
  rw [hN] at a63
  have hN64 : N < 64 := by omega
  have hnew : newR (N : Int) = ((N : Int), 0, 0) := by simp [newR, show ¬ ((N : Int) < 0) by omega, show ¬ (64 < (N : Int)) by omega]
  have HN := Lib.hid (fun w => (show Calls Try.prog 44 #[.int .i64 N] w fun e w' => e = .returned (.tuple #[.agg #[.int .i64 N, .int .u64 0], .int .i64 0]) ∧ Below w.heap.size w w' from by have := new_any N w; rwa [hnew] at this))
  obtain ⟨hmx, ho⟩ := C_open hC
  have HO := Lib.hid ho
  have HOK := Lib.hid hb
  clear hn8 hC hb hN hnew ho
  go_enter Try.func11, Try.ntmps11
  go_wp2_with fail
  clear a63
  refine (HN.out _).mono ?_
  rintro e w1 ⟨rfl, hb1⟩
  obtain ⟨y2, hy2, ha2, hby2⟩ := mk w1 N 0
  have HB2 := Lib.hid (stay1 hb1 hby2)
  have HA2 := Lib.hid ha2
  have HLT := Lib.hid (show w.heap.size ≤ w1.heap.size from hb1.size)
  clear hb1 hby2 ha2 HN
  obtain ⟨y3, hy3⟩ : ∃ y3, y3 = y2.alloc (.cells #[.bool false, .bool false, .bool false, .bool false, .bool false, .bool false, .bool false, .bool false, .bool false, .bool false, .bool false, .bool false, .bool false, .bool false, .bool false, .bool false, .bool false, .bool false, .bool false, .bool false, .bool false, .bool false, .bool false, .bool false, .bool false, .bool false, .bool false, .bool false, .bool false, .bool false, .bool false, .bool false, .bool false, .bool false, .bool false, .bool false, .bool false, .bool false, .bool false, .bool false, .bool false, .bool false, .bool false, .bool false, .bool false, .bool false, .bool false, .bool false, .bool false, .bool false, .bool false, .bool false, .bool false, .bool false, .bool false, .bool false, .bool false, .bool false, .bool false, .bool false, .bool false, .bool false, .bool false, .bool false] 86) := ⟨_, rfl⟩
  have hby3 : Below y2.heap.size y2 y3 := by rw [hy3]; exact (Below.refl _ _).alloc (Nat.le_refl _) _
  have HB3 := Lib.hid (stay1 HB2.out hby3)
  have HA3 := Lib.hid (HA2.out.below hby3)
  have HR3 := Lib.hid (show Arr y2.heap.size (bitsL 0 64) y3 from by rw [hy3]; exact heap_alloc_new y2 _)
  have HS2 := Lib.hid (show y2.heap.size = w1.heap.size + 1 from by rw [hy2]; simp)
  rw [hy2] at hy3
  go_wp2_with fail
  rw [← hy3]
  rw [show w1.heap.size + 1 = y2.heap.size from HS2.out.symm]
  clear hy3 hy2 hby3 HB2 HA2
  have HL5 := Lib.hid (show w.heap.size ≤ w1.heap.size ∧ w.heap.size ≤ y2.heap.size from ⟨HLT.out, by have := HLT.out; have := HS2.out; omega⟩)
  clear HLT HS2
  generalize w1.heap.size = b5 at HA3 HL5 ⊢
  generalize y2.heap.size = b7 at HR3 HL5 ⊢
  go_loopg [8] (l.length + 1) (fun g v8 w' => ∃ i x : Nat, v8 = .int .i64 i ∧ Hid (i ≤ l.length ∧ l.length < g + i) ∧ Hid (rgt N x = true) ∧ Hid (At b5 N x w') ∧ Hid (Arr b7 (bitsL x 64) w') ∧ Hid (Below w.heap.size w w'))
  case atStart => exact ⟨0, 0, rfl, Lib.hid ⟨by omega, by omega⟩, Lib.hid (by simp [rgt, Nat.two_pow_pos]; omega), HA3, HR3, HB3⟩
  case round =>
    obtain ⟨i, x, rfl, HJ, HG, HA, HR, HB⟩ := hrel
    cases gk with
    | zero => have := HJ.out; omega
    | succ g =>
      obtain ⟨hj1, hj2⟩ := HJ.out
      clear HJ HA3 HR3 HB3
      by_cases hlt : i < l.length ∧ i < 200
      · obtain ⟨hlt, h200⟩ := hlt
        rcases HO.out with e | ⟨bk, off, rfl, _, hcells⟩
        · subst e; simp at hlt
        have k0 := pw_cell_below HB.out (hcells i hlt)
        have hv := HOK.out (l.getD i 0) (by rw [List.getD_eq_getElem?_getD, List.getElem?_eq_getElem hlt]; exact List.getElem_mem hlt)
        clear hcells
        generalize l.getD i 0 = v at k0 hv
        obtain ⟨u, rfl⟩ := Int.eq_ofNat_of_zero_le hv.1
        have a63 := and63 u (by omega)
        obtain ⟨k, hk⟩ : ∃ k, u % 64 = k := ⟨_, rfl⟩
        rw [hk] at a63
        have hk64 : k < 64 := by omega
        clear hk hv
        have q0 := HA.out.c0
        have q1 := HA.out.c1
        by_cases hkn : k < N
        · have hw := with_in HG.out (j := k) (by omega)
          have HW := Lib.hid (fun w => with_is N x k N (x ||| 2 ^ k) 0 w (rgt_zero HG.out).2.2 hw.1)
          have HG2 := Lib.hid hw.2.1
          have t1 : decide ((k : Int) < (N : Int)) = true := by simp; omega
          clear hw
          go_wp2_with fail
          refine (HW.out _).mono ?_
          rintro e w4 ⟨rfl, hb4⟩
          obtain ⟨y5, hy5, ha5, hby5⟩ := mk w4 N ((x ||| 2 ^ k : Nat) : Int)
          have HB5 := Lib.hid (stay1 (stay1 HB.out hb4) hby5)
          have HA5 := Lib.hid ((HA.out.below hb4).below hby5)
          have HR5 := Lib.hid ((HR.out.below hb4).below hby5)
          have HW5 := Lib.hid ha5
          have r0 := HA5.out.c0
          have hw4b : w4.heap.size < y5.heap.size := HW5.out.lt
          have rr := HR5.out.get (j := k) (by rw [bitsL_len]; omega)
          have rf := HR5.out.fr k
          have hsep := HA5.out.ne HR5.out
          have HW6 := Lib.hid (HW5.out.far (p := ⟨b7, k, none⟩) (HW5.out.ne HR5.out) (.bool true))
          have HA6 := Lib.hid (HA5.out.far (p := ⟨b7, k, none⟩) hsep (.bool true))
          have HR6 := Lib.hid (HR5.out.set k true)
          have HB6 := Lib.hid (HB5.out.setCell (p := ⟨b7, k, none⟩) HL5.out.2 (.bool true))
          obtain ⟨y6, hy6⟩ : ∃ y6, y6 = y5.setCell ⟨b7, k, none⟩ (.bool true) := ⟨_, rfl⟩
          rw [← hy6] at HW6 HA6 HR6 HB6
          have s0 := HW6.out.c0
          have s1 := HW6.out.c1
          have p0 := HA6.out.c0
          have p1 := HA6.out.c1
          have f0 := HA6.out.fr 0
          have f1 := HA6.out.fr 1
          have p1' := (HA6.out.c0set N).c1
          have f1' := (HA6.out.c0set N).fr 1
          rw [hy6, hy5] at s0 s1 p0 p1 f0 f1 p1' f1'
          rw [hy5] at r0 rr rf
          clear hb4 hby5 ha5 hw4b q0 q1 k0 hsep
          go_wp2_with fail
          rw [← hy5, ← hy6]
          clear hy5 s0 s1 p0 p1 f0 f1 p1' f1' r0 rr rf
          go_roundg g
          case measure => omega
          case rel => exact ⟨i + 1, x ||| 2 ^ k, by go_num, Lib.hid ⟨by omega, by omega⟩, HG2, Lib.hid (HA6.out.c0set N).set _, Lib.hid (((by rw [← bitsL_set]; exact HR6.out : Arr b7 (bitsL (x ||| 2 ^ k) 64) y6).far (Ne.symm (HA6.out.ne HR6.out)) _).far (Ne.symm (HA6.out.ne HR6.out)) _), Lib.hid ((HB6.out.setCell HL5.out.1 _).setCell HL5.out.1 _)⟩
        · have hw := with_out HG.out (i := (k : Int)) (.inr (by omega))
          have HW := Lib.hid (fun w => with_is N x k 0 0 1 w (rgt_zero HG.out).2.2 hw.1)
          have t1 : decide ((k : Int) < (N : Int)) = false := by simp; omega
          clear hw
          go_wp2_with fail
          refine (HW.out _).mono ?_
          rintro e w4 ⟨rfl, hb4⟩
          obtain ⟨y5, hy5, ha5, hby5⟩ := mk w4 0 0
          have HB5 := Lib.hid (stay1 (stay1 HB.out hb4) hby5)
          have HA5 := Lib.hid ((HA.out.below hb4).below hby5)
          have HR5 := Lib.hid ((HR.out.below hb4).below hby5)
          have r0 := HA5.out.c0
          rw [hy5] at r0
          clear hb4 hby5 ha5 q0 q1 k0
          go_wp2_with fail
          rw [← hy5]
          clear hy5 r0
          go_roundg g
          case measure => omega
          case rel => exact ⟨i + 1, x, by go_num, Lib.hid ⟨by omega, by omega⟩, HG, HA5, HR5, HB5⟩
      · have hex : ¬ i < l.length ∨ (i < l.length ∧ ¬ i < 200) := by omega
        have HFI := Lib.hid (show ∀ j : Nat, j < 64 → hasB N x j = x.testBit j from fun j hj => by
          have hp := pos_nat HG.out
          by_cases h : j < N
          · simp [hasB, HG.out, h]
          · have : x.testBit j = false := Nat.testBit_lt_two_pow (Nat.lt_of_lt_of_le hp.1 (Nat.pow_le_pow_right (by decide) (by omega)))
            simp [hasB, h, this])
        clear hlt HO HOK hmx
        rcases hex with hx | ⟨hx, hx2⟩
        all_goals
          go_wp2_with fail
          go_loopg [12, 13] 65 (fun g v12 v13 w' => ∃ j : Nat, v13 = .int .i64 j ∧ v12 = .int .i64 (pcB j x) ∧ Hid (j ≤ 64 ∧ 64 < g + j) ∧ Hid (At b5 N x w') ∧ Hid (Arr b7 (bitsL x 64) w') ∧ Hid (Below w.heap.size w w'))
          case atStart => exact ⟨0, rfl, rfl, Lib.hid ⟨by omega, by omega⟩, HA, HR, HB⟩
          case round =>
            clear HA HR HB
            obtain ⟨j, rfl, rfl, HJ, HA, HR, HB⟩ := hrel
            cases gk with
            | zero => have := HJ.out; omega
            | succ g =>
              obtain ⟨hj1, hj2⟩ := HJ.out
              clear HJ
              by_cases hlt : j < 64
              · have HH := Lib.hid (fun w => has_is N x j (x.testBit j) w (rgt_zero HG.out).2.2 (HFI.out j hlt))
                have kr := HR.out.get (j := j) (by rw [bitsL_len]; exact hlt)
                rw [show (bitsL x 64).getD j false = x.testBit j from by simp [bitsL, hlt]] at kr
                have HT := Lib.hid (pcB_top j x)
                have hple := pcB_le j x
                generalize pcB j x = pj at HT hple ⊢
                generalize x.testBit j = bt at HH kr HT
                have KR := Lib.hid kr
                clear kr
                go_wp2_with fail
                refine Q.wp_region_segs none [([0, 1, 3, 4, 5], some 2), ([6], none)] (by kernel_rfl) (by kernel_rfl) (by kernel_rfl) (by kernel_rfl) ?_
                dsimp only [Q.wpSegs, Q.picks, Q.pick]
                replace HB := Lib.hid (HB.out.drew)
                replace HA := Lib.hid (At.drew HA.out)
                replace HR := Lib.hid (HR.out.below (stay0 _))
                have gHA_0 := fun (m : Q.GW (wr).drew wr.heap.size none) => (HA.out.below m.below).c0
                have gHA_1 := fun (m : Q.GW (wr).drew wr.heap.size none) => (HA.out.below m.below).c1
                have gkr : ∀ m : Q.GW (wr).drew wr.heap.size none, m.w.cell? ⟨b7, j, none⟩ = some (.bool bt) := fun m => pw_cell_below (stay1 (stay0 wr) m.below) KR.out
                repeat (go_big_quiet_step (fail))
                refine wpQuiet_nil ?_
                clear gHA_0 gHA_1 gkr
                go_wp2_with (go_at_call 50; refine (HH.out _).mono ?_; rintro e w1 ⟨rfl, hb1⟩; (have Hb1 := Lib.hid hb1); clear hb1)
                refine Q.ev_done Hb1.out (Nat.le_refl _) ?_
                replace HB := Lib.hid (stay1 HB.out Hb1.out)
                replace HA := Lib.hid (HA.out.below Hb1.out)
                replace HR := Lib.hid (HR.out.below Hb1.out)
                have hbq := Hb1
                repeat (go_big_quiet_step (fail))
                refine wpQuiet_nil ?_
                refine NoPanic.normal ?_
                have kr := pw_cell_below (stay1 (stay0 wr) hbq.out) KR.out
                cases bt
                all_goals
                  go_wp2
                  go_roundg g
                  case measure => omega
                  case rel => exact ⟨j + 1, by go_num, by rw [HT.out]; simp, Lib.hid ⟨by omega, by omega⟩, HA, HR, HB⟩
              · have hj64 : j = 64 := by omega
                subst hj64
                clear HFI
                have hpN := pos_nat HG.out
                have hx64 := (rgt_zero HG.out).2.2
                have HPM := Lib.hid (show (putM N x).length = 1 + (N + 7) / 8 from by rw [putM_byts]; simp [byts_len]; omega)
                have HOP := Lib.hid (putM_ok x (Nat.le_of_lt hN64))
                have HRP := Lib.hid (read_put HG.out)
                have HPC := Lib.hid (gone_pc x N)
                have HPF := Lib.hid (pcB_64 HG.out)
                have HFU := Lib.hid (fun w => full_is N x ((pcB 64 x : Int) == (N : Int)) w hx64 (by
                  rw [fullB, HG.out, Bool.true_and, Bool.eq_iff_iff]
                  have := pcB_full hpN.1
                  have h2 := pcB_64 HG.out
                  simp only [beq_iff_eq, Int.toNat_natCast] at *
                  omega))
                have HCO := Lib.hid (fun w => count_is N x (pcB 64 x) w hx64 (by rw [HG.out, if_pos rfl]))
                have HMI := Lib.hid (fun w => miss_is N x (gone x N) w hx64 (by simp [missR, HG.out]))
                clear hpN hx64
                have ha_0 := HA.out.c0
                have ha_1 := HA.out.c1
                go_wp2_with fail
                clear ha_0 ha_1
                refine (write_is N x _ HG.out).mono ?_
                rintro e w1 ⟨v1b, rfl, ho1b, hb1⟩
                replace HB := Lib.hid (stay1 HB.out hb1)
                replace HA := Lib.hid (HA.out.below hb1)
                obtain ⟨Ab, cb, rfl, hkb, hCb⟩ := Kd.R_reads ho1b
                have HCB := Lib.hid (hCb)
                have KHCB := Lib.hid (hkb)
                clear ho1b hCb hkb
                clear hb1
                go_wp2_with fail
                refine (read_is (putM N x) _ _ _ N x _ rfl HCB.out KHCB.out HOP.out HRP.out).mono ?_
                rintro e w2 ⟨rfl, hb2⟩
                replace HB := Lib.hid (stay1 HB.out hb2)
                replace HA := Lib.hid (HA.out.below hb2)
                replace HCB := Lib.hid (Kd.C_below HCB.out hb2)
                clear hb2
                obtain ⟨y3, hy3, ha3, hby3⟩ := mk w2 N x
                replace HB := Lib.hid (stay1 HB.out hby3)
                replace HA := Lib.hid (HA.out.below hby3)
                replace HCB := Lib.hid (Kd.C_below HCB.out hby3)
                have HR2 := Lib.hid (ha3)
                clear ha3 hby3
                have ha_0 := HA.out.c0
                have ha_1 := HA.out.c1
                have hr2_0 := HR2.out.c0
                have hr2_1 := HR2.out.c1
                rw [hy3] at ha_0 ha_1 hr2_0 hr2_1
                go_wp2_with fail
                rw [← hy3]
                clear hy3
                clear ha_0 ha_1 hr2_0 hr2_1
                refine (or_as N x x x _ HG.out HG.out (Nat.or_self x)).mono ?_
                rintro e w4 ⟨rfl, hb4⟩
                replace HB := Lib.hid (stay1 HB.out hb4)
                replace HA := Lib.hid (HA.out.below hb4)
                replace HCB := Lib.hid (Kd.C_below HCB.out hb4)
                replace HR2 := Lib.hid (HR2.out.below hb4)
                clear hb4
                obtain ⟨y5, hy5, ha5, hby5⟩ := mk w4 N x
                replace HB := Lib.hid (stay1 HB.out hby5)
                replace HA := Lib.hid (HA.out.below hby5)
                replace HCB := Lib.hid (Kd.C_below HCB.out hby5)
                replace HR2 := Lib.hid (HR2.out.below hby5)
                have HX2 := Lib.hid (ha5)
                clear ha5 hby5
                go_wp2_with fail
                rw [← hy5]
                clear hy5
                refine Q.wp_region_segs none [([], some 0), ([1, 2, 3, 4, 5, 6, 7, 8, 9, 10, 11, 12, 13, 14, 15, 16, 17, 18, 19, 20, 21, 22, 23, 24, 26], some 25), ([27, 28, 29, 30, 32, 36, 37], some 31), ([], some 33), ([34, 35, 38, 39, 40, 41, 43, 44, 45, 46], some 42), ([47, 48, 49], none)] (by kernel_rfl) (by kernel_rfl) (by kernel_rfl) (by kernel_rfl) ?_
                dsimp only [Q.wpSegs, Q.picks, Q.pick]
                replace HB := Lib.hid (HB.out.drew)
                replace HA := Lib.hid (At.drew HA.out)
                replace HCB := Lib.hid (Kd.C_drew HCB.out)
                replace HR2 := Lib.hid (At.drew HR2.out)
                replace HX2 := Lib.hid (At.drew HX2.out)
                refine wpQuiet_nil ?_
                go_wp2_with (go_at_call 15; refine (alive_any _).mono ?_; rintro e w6 ⟨rfl, hb6⟩; (have Hb6 := Lib.hid hb6); clear hb6)
                refine Q.ev_done Hb6.out (Nat.le_refl _) ?_
                replace HB := Lib.hid (stay1 HB.out Hb6.out)
                replace HA := Lib.hid (HA.out.below Hb6.out)
                replace HCB := Lib.hid (Kd.C_below HCB.out Hb6.out)
                replace HR2 := Lib.hid (HR2.out.below Hb6.out)
                replace HX2 := Lib.hid (HX2.out.below Hb6.out)
                clear Hb6
                have u1 : IntKind.i64.wrap ((pcB 64 x : Int) + ((gone x N).length : Int)) = (N : Int) := by
                  have h1 := HPC.out
                  have h2 := HPF.out
                  rw [Int.toNat_natCast] at h2
                  rw [IntKind.wrap_i64]
                  omega
                have gHR2_0 := fun (m : Q.GW w6 w6.heap.size none) => (HR2.out.below m.below).c0
                have gHR2_1 := fun (m : Q.GW w6 w6.heap.size none) => (HR2.out.below m.below).c1
                have gHA_0 := fun (m : Q.GW w6 w6.heap.size none) => (HA.out.below m.below).c0
                have gHA_1 := fun (m : Q.GW w6 w6.heap.size none) => (HA.out.below m.below).c1
                have gHX2_0 := fun (m : Q.GW w6 w6.heap.size none) => (HX2.out.below m.below).c0
                have gHX2_1 := fun (m : Q.GW w6 w6.heap.size none) => (HX2.out.below m.below).c1
                repeat (go_big_quiet_step (fail))
                refine wpQuiet_nil ?_
                clear gHR2_0 gHR2_1 gHA_0 gHA_1 gHX2_0 gHX2_1
                go_wp2_with (go_at_call 46; refine (HCO.out _).mono ?_; rintro e w7 ⟨rfl, hb7⟩; (have Hb7 := Lib.hid hb7); clear hb7)
                refine Q.ev_done Hb7.out (Nat.le_refl _) ?_
                replace HB := Lib.hid (stay1 HB.out Hb7.out)
                replace HA := Lib.hid (HA.out.below Hb7.out)
                replace HCB := Lib.hid (Kd.C_below HCB.out Hb7.out)
                replace HR2 := Lib.hid (HR2.out.below Hb7.out)
                replace HX2 := Lib.hid (HX2.out.below Hb7.out)
                clear Hb7
                have gHA_0 := fun (m : Q.GW w7 w7.heap.size none) => (HA.out.below m.below).c0
                have gHA_1 := fun (m : Q.GW w7 w7.heap.size none) => (HA.out.below m.below).c1
                repeat (go_big_quiet_step (fail))
                refine wpQuiet_nil ?_
                clear gHA_0 gHA_1
                go_wp2_with (go_at_call 46; refine (HCO.out _).mono ?_; rintro e w8 ⟨rfl, hb8⟩; (have Hb8 := Lib.hid hb8); clear hb8)
                refine Q.ev_done Hb8.out (Nat.le_refl _) ?_
                replace HB := Lib.hid (stay1 HB.out Hb8.out)
                replace HA := Lib.hid (HA.out.below Hb8.out)
                replace HCB := Lib.hid (Kd.C_below HCB.out Hb8.out)
                replace HR2 := Lib.hid (HR2.out.below Hb8.out)
                replace HX2 := Lib.hid (HX2.out.below Hb8.out)
                clear Hb8
                refine wpQuiet_nil ?_
                go_wp2_with (go_at_call 48; refine (HMI.out _).mono ?_; rintro e w9 ⟨v9m, rfl, ho9m, hb9⟩; obtain ⟨Am, cm, rfl, hkm, hCm⟩ := Kd.R_reads ho9m; (have HMM := Lib.hid hCm); (have KHMM := Lib.hid hkm); clear ho9m hCm hkm; (have Hb9 := Lib.hid hb9); clear hb9)
                refine Q.ev_done Hb9.out (Nat.le_refl _) ?_
                replace HB := Lib.hid (stay1 HB.out Hb9.out)
                replace HA := Lib.hid (HA.out.below Hb9.out)
                replace HCB := Lib.hid (Kd.C_below HCB.out Hb9.out)
                replace HR2 := Lib.hid (HR2.out.below Hb9.out)
                replace HX2 := Lib.hid (HX2.out.below Hb9.out)
                clear Hb9
                have gHA_0 := fun (m : Q.GW w9 w9.heap.size none) => (HA.out.below m.below).c0
                have gHA_1 := fun (m : Q.GW w9 w9.heap.size none) => (HA.out.below m.below).c1
                repeat (go_big_quiet_step (fail))
                refine wpQuiet_nil ?_
                clear gHA_0 gHA_1
                go_wp2_with (go_at_call 49; refine (HFU.out _).mono ?_; rintro e w10 ⟨rfl, hb10⟩; (have Hb10 := Lib.hid hb10); clear hb10)
                refine Q.ev_done Hb10.out (Nat.le_refl _) ?_
                replace HB := Lib.hid (stay1 HB.out Hb10.out)
                replace HA := Lib.hid (HA.out.below Hb10.out)
                replace HCB := Lib.hid (Kd.C_below HCB.out Hb10.out)
                replace HR2 := Lib.hid (HR2.out.below Hb10.out)
                replace HX2 := Lib.hid (HX2.out.below Hb10.out)
                replace HMM := Lib.hid (Kd.C_below HMM.out Hb10.out)
                clear Hb10
                repeat (go_big_quiet_step (fail))
                refine wpQuiet_nil ?_
                refine NoPanic.normal ?_
                go_wp2
                go_ret
                exact ⟨rfl, HB.out⟩
end Go.Proofs.Ytigbmbmngkmdlaa.Bm
