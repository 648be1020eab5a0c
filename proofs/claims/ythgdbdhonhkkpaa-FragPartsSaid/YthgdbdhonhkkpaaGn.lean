/-
  frag: the law of which parts may be.
-/
import Derived.Test.YthgdbdhonhkkpaaGm
import Derived.Test.YthgdbdhonhkkpaaGk
namespace Go.Proofs.Ythgdbdhonhkkpaa.Fg
open Go.RowKit Go.Proofs.Ythgdbdhonhkkpaa.L Go.Proofs.Ythgdbdhonhkkpaa.V Go.Proofs.Ythgdbdhonhkkpaa.N Go.Proofs.YthgdbdhonhkkpaaW.PrintWords

def cs4 (id ix ct : Int) (v : Value) : Array Value := #[.int .u64 id, .int .i64 ix, .int .i64 ct, v]
def P4 (t : TypeId) (b : Nat) (id ix ct : Int) (v : Value) (w : World) : Prop := w.heap[b]? = some (.cells (cs4 id ix ct v) t (0, 0))
section
variable {t : TypeId} {b : Nat} {id ix ct : Int} {v : Value} {w w1 : World}
theorem P4.lt (h : P4 t b id ix ct v w) : b < w.heap.size := blk_lt h
theorem P4.below (h : P4 t b id ix ct v w) (hb : Below w.heap.size w w1) : P4 t b id ix ct v w1 := blk_below h hb
theorem P4.keep (h : P4 t b id ix ct v w) {n : Nat} (hb : Below n w w1) (hn : b < n) : P4 t b id ix ct v w1 := (hb.block b hn).trans h
theorem P4.c0 (h : P4 t b id ix ct v w) : w.cell? ⟨b, 0, none⟩ = some (.int .u64 id) := (blk_cell h 0).trans rfl
theorem P4.c1 (h : P4 t b id ix ct v w) : w.cell? ⟨b, 1, none⟩ = some (.int .i64 ix) := (blk_cell h 1).trans rfl
theorem P4.c2 (h : P4 t b id ix ct v w) : w.cell? ⟨b, 2, none⟩ = some (.int .i64 ct) := (blk_cell h 2).trans rfl
theorem P4.c3 (h : P4 t b id ix ct v w) : w.cell? ⟨b, 3, none⟩ = some v := (blk_cell h 3).trans rfl
theorem P4.loadP (h : P4 tP b id ix ct v w) {B : Nat} (hb : b < B) : ∀ w', (∃ m : Q.GW w B none, w' = m.w) → (Instr.loadAt tP (.pointer (some ⟨b, 0, none⟩))).run Try.prog w' = .ok (.agg #[.int .u64 id, .int .i64 ix, .int .i64 ct, v]) w' := by
  rintro w' ⟨m, rfl⟩
  have h2 : P4 tP b id ix ct v m.w := (m.h.block b hb (by simp)).trans h
  have := load4 h2
  simp only [Instr.loadAt, Instr.sureAddr, Sem.run_bind, Sem.run_pure, this, Result.andThen]
theorem P4.loadR (h : P4 tR b id ix ct v w) {B : Nat} (hb : b < B) : ∀ w', (∃ m : Q.GW w B none, w' = m.w) → (Instr.loadAt tR (.pointer (some ⟨b, 0, none⟩))).run Try.prog w' = .ok (.agg #[.int .u64 id, .int .i64 ix, .int .i64 ct, v]) w' := by
  rintro w' ⟨m, rfl⟩
  have h2 : P4 tR b id ix ct v m.w := (m.h.block b hb (by simp)).trans h
  have := load4R h2
  simp only [Instr.loadAt, Instr.sureAddr, Sem.run_bind, Sem.run_pure, this, Result.andThen]
theorem P4.mk (w : World) (t : TypeId) (id ix ct : Int) (v : Value) : P4 t w.heap.size id ix ct v (w.alloc (.cells (cs4 id ix ct v) t)) := heap_alloc_new w _
end
set_option maxRecDepth 100000 in
set_option maxHeartbeats 6400000 in
theorem parts_walk (id ix ct : Int) (d : List Int) (A : Option Addr) (c : Nat) (l : List Int) (B : Option Addr) (cb : Nat) (w : World) (hid : 0 ≤ id) (hC : (Kd.int .u8).C w A d.length d) (hc : d.length ≤ c) (hB : (Kd.int .u8).C w B l.length l) (hcb : l.length ≤ cb) (hb : okB l) :
    Calls Try.prog 5 #[.agg #[.int .u64 id, .int .i64 ix, .int .i64 ct, .slice A d.length c], .slice B l.length cb] w fun e w' => e = .returned (.bool true) ∧ Below w.heap.size w w' := by
  have hmx := Kd.C_max hC
  have hmx2 := Kd.C_max hB
  have HB := Lib.hid (show Below w.heap.size w (w.alloc (.cells #[.int .u64 id, .int .i64 ix, .int .i64 ct, .slice A d.length c] tP)) from (Below.refl _ _).alloc (Nat.le_refl _) _)
  have HX := Lib.hid (show P4 tP w.heap.size id ix ct (.slice A d.length c) (w.alloc (.cells #[.int .u64 id, .int .i64 ix, .int .i64 ct, .slice A d.length c] tP)) from P4.mk w tP id ix ct (.slice A d.length c))
  by_cases hg1 : 600 < d.length
  · have t1 : decide ((600 : Int) < (d.length : Int)) = true := decide_eq_true (by omega)
    have t1n : decide (600 < d.length) = true := decide_eq_true (by omega)
    clear hC hc hB hcb hb hmx hmx2 hid hg1 HX
    go_enter Try.func5, Try.ntmps5
    go_wp2_with (go_at_call 15; refine (alive_any _).mono ?_; rintro e w1 ⟨rfl, hb1⟩; (have HB1 := Lib.hid (HB.out.trans (hb1.mono HB.out.size))); clear hb1)
    go_ret
    exact ⟨rfl, HB1.out⟩
  have t1 : decide ((600 : Int) < (d.length : Int)) = false := decide_eq_false (by omega)
  have t1n : decide (600 < d.length) = false := decide_eq_false (by omega)
  by_cases hg2 : 600 < l.length
  · have t2 : decide ((600 : Int) < (l.length : Int)) = true := decide_eq_true (by omega)
    have t2n : decide (600 < l.length) = true := decide_eq_true (by omega)
    clear hC hc hB hcb hb hmx hmx2 hid hg1 hg2 HX
    go_enter Try.func5, Try.ntmps5
    go_wp2_with (go_at_call 15; refine (alive_any _).mono ?_; rintro e w1 ⟨rfl, hb1⟩; (have HB1 := Lib.hid (HB.out.trans (hb1.mono HB.out.size))); clear hb1)
    go_ret
    exact ⟨rfl, HB1.out⟩
  have t2 : decide ((600 : Int) < (l.length : Int)) = false := decide_eq_false (by omega)
  have t2n : decide (600 < l.length) = false := decide_eq_false (by omega)
  have z1 : (d.length : Int) ≤ 600 := by omega
  have z2 : (l.length : Int) ≤ 600 := by omega
  have HC := Lib.hid hC
  have HBc := Lib.hid hB
  have HK := Lib.hid (show d.length ≤ c ∧ l.length ≤ cb ∧ l.length ≤ 600 ∧ d.length ≤ 600 from ⟨hc, hcb, by omega, by omega⟩)
  have HO := Lib.hid hb
  have HI := Lib.hid hid
  obtain ⟨⟨⟨y0, y1, y2, y3⟩, er⟩, hpe⟩ : ∃ p, readR l = p := ⟨_, rfl⟩
  have HPe := Lib.hid hpe
  clear hC hc hB hcb hb hmx hmx2 hid hg1 hg2 hpe
  go_enter Try.func5, Try.ntmps5
  go_upto_region 1 with (fail)
  refine wp_at fun W0 hW0 => ?_
  have hW1 : W0 = w.alloc (.cells #[.int .u64 id, .int .i64 ix, .int .i64 ct, .slice A d.length c] tP) := hW0.trans rfl
  rw [← hW1] at HB HX
  clear hW0 hW1
  have k0 := HX.out.c0
  have k1 := HX.out.c1
  have k2 := HX.out.c2
  have k3 := HX.out.c3
  go_upto_region 4 with (go_at_call 20; refine (as_any id ix ct A d.length c _).mono ?_; rintro e w1 ⟨rfl, hb1⟩; (have HX1 := Lib.hid (HX.out.below hb1)); (have HB1 := Lib.hid (HB.out.trans (hb1.mono HB.out.size))); clear hb1 k0 k1 k2 k3)
  refine wp_at fun W1 hW1 => ?_
  have HX2 := Lib.hid (show P4 tP w.heap.size id ix ct (.slice A d.length c) W1 from hW1 ▸ blk_alloc HX1.out _)
  have HR2 := Lib.hid (show P4 tR w1.heap.size id ix ct (.slice A d.length c) W1 from hW1 ▸ P4.mk w1 tR id ix ct (.slice A d.length c))
  have HB2 := Lib.hid (show Below w.heap.size w W1 from hW1 ▸ HB1.out.alloc HB1.out.size _)
  clear hW1 HX1 HB1 HX HB
  have k0 := HX2.out.c0
  have k1 := HX2.out.c1
  have k2 := HX2.out.c2
  have k3 := HX2.out.c3
  have hq := write_any id ix ct d A c W1 (Kd.C_below HC.out HB2.out)
  have HQ := Lib.hid hq
  obtain ⟨yl, hyl⟩ : ∃ n, (wrL id ix ct d).length = n := ⟨_, rfl⟩
  obtain ⟨we, hwe⟩ : ∃ n, wrE id ix ct d = n := ⟨_, rfl⟩
  have HYl := Lib.hid hyl
  have HWe := Lib.hid hwe
  clear hq
  go_upto_region 5 with (go_at_call 24; refine HQ.out.mono ?_; rintro e W2 ⟨v, rfl, hv, hb2⟩; obtain ⟨A2, q2, rfl, hq2, hC2⟩ := Kd.R_reads hv; (rw [hyl] at hC2 ⊢); (rw [hwe]); (have HC2 := Lib.hid hC2); (have HX3 := Lib.hid (HX2.out.below hb2)); (have HR3 := Lib.hid (HR2.out.below hb2)); (have HB3 := Lib.hid (HB2.out.trans (hb2.mono HB2.out.size))); clear hv hb2 hq2 hC2 HQ k0 k1 k2 k3)
  clear hyl hwe HX2 HR2 HB2
  go_upto_region 6 with (at_builtin; refine appn (w0 := W2) .u8 W2.heap.size (.tmp 31) (.tmp 32) 23 5 1 rfl rfl Try.underlying23 S.info_u8 (by decide) (.slice (some ⟨W2.heap.size, 0, none⟩) 0 0) [] l B _ cb rfl rfl (R_empty (Nat.le_refl _) _ rfl) (Kd.C_alloc (Kd.C_below HBc.out HB3.out) _) ((Below.refl _ _).alloc (Nat.le_refl _) _) (by simp) (by have := HK.out; simp; omega) ?_; intro v4 w4 ho4 hb4 _; (rw [List.nil_append] at ho4); (have HB4 := Lib.hid hb4); (have HO4 := Lib.hid ho4); obtain ⟨A4, c4, rfl, hc4, hC4⟩ := Kd.R_reads ho4; (have HC4 := Lib.hid hC4); (have Hc4 := Lib.hid hc4); clear ho4 hb4 hC4 hc4)
  have hq := read_any l A4 c4 w4 HC4.out Hc4.out HO.out (by have := HK.out; omega)
  rw [HPe.out] at hq
  dsimp only [ptV] at hq
  have HQ := Lib.hid hq
  clear hq
  go_upto_region 7 with (go_at_call 25; refine HQ.out.mono ?_; rintro e w5 ⟨v5, rfl, ho5, hb5⟩; obtain ⟨A5, c5, rfl⟩ := Kd.R_slice ho5; (have HO5 := Lib.hid ho5); (have HO4b := Lib.hid (Kd.R_below HO4.out hb5)); (have HB5 := Lib.hid (HB4.out.trans (hb5.mono HB4.out.size))); (have HS5 := Lib.hid (show w4.heap.size ≤ w5.heap.size from hb5.size)); clear ho5 hb5 HQ)
  refine wp_at fun W6 hW6 => ?_
  have HY6 := Lib.hid (show P4 tP w5.heap.size y0 y1 y2 (.slice A5 y3.length c5) W6 from hW6 ▸ P4.mk w5 tP y0 y1 y2 (.slice A5 y3.length c5))
  have HO6 := Lib.hid (show (Kd.int .u8).R 5 W6 w4.heap.size (fun _ => True) (.slice A5 y3.length c5) y3 from hW6 ▸ Kd.R_alloc HO5.out _)
  have HOw := Lib.hid (show (Kd.int .u8).R 5 W6 W2.heap.size (fun _ => True) (.slice A4 l.length c4) l from hW6 ▸ Kd.R_alloc HO4b.out _)
  have HB6 := Lib.hid (show Below W2.heap.size W2 W6 from hW6 ▸ HB5.out.alloc HB5.out.size _)
  have HS4 := Lib.hid (show ∀ k, (Value.slice A4 l.length c4).ownBlock = some k → k < w4.heap.size from fun k hk => Kd.R_lt HO4.out k hk)
  clear hW6 HO5 HO4b HB5 HC4 Hc4 HO4 HB4
  go_wp2_with fail
  go_loopg [11] (l.length + 1) (fun g v11 w' => ∃ (ys : List Int) (j : Nat), v11 = .int .i64 j ∧ Hid (j ≤ l.length ∧ l.length < g + j) ∧ Hid ((Kd.int .u8).R 5 w' W2.heap.size (fun _ => True) (.slice A4 l.length c4) ys) ∧ Hid ((Kd.int .u8).R 5 w' w4.heap.size (fun _ => True) (.slice A5 y3.length c5) y3) ∧ Hid (P4 tP w5.heap.size y0 y1 y2 (.slice A5 y3.length c5) w') ∧ Hid (Below W2.heap.size W2 w'))
  case atStart => exact ⟨l, 0, rfl, Lib.hid ⟨by omega, by omega⟩, HOw, HO6, HY6, HB6⟩
  case round =>
    obtain ⟨ys, j, rfl, HJ, HY, HV, HP, HBr⟩ := hrel
    clear HOw HO6 HY6 HB6
    cases gk with
    | zero => have := HJ.out; omega
    | succ g =>
      obtain ⟨hj1, hj2⟩ := HJ.out
      clear HJ
      by_cases hlt : j < l.length
      · obtain ⟨hlen, _⟩ := Kd.R_reads' HY.out
        obtain ⟨g0, cap, hA, hg0, hg1, _⟩ := Kd.R_form HY.out (by omega)
        obtain rfl : A4 = some ⟨g0, 0, none⟩ := by injection hA
        clear hA hlen
        obtain ⟨hcc, hff⟩ := Kd.R_celln (0 : Int) HY.out j (by omega) (by omega)
        clear hg1
        generalize rdOf 0 ys j = x at hcc
        simp only [Int.toNat_natCast] at hcc hff
        go_wp2_with fail
        go_roundg g
        case measure => omega
        case rel =>
          have hp := Kd.R_putg HY.out j (bits .xor .u8 x 255)
          rw [Int.toNat_natCast] at hp
          exact ⟨_, j + 1, by go_num, Lib.hid ⟨by omega, by omega⟩, Lib.hid hp.1, Lib.hid (R_newer HV.out HS4.out (Nat.le_refl _) hp.2), Lib.hid (blk_grown HP.out hp.2 (own_ne (Kd.own_of_R HY.out) HP.out (by decide))), Lib.hid (HBr.out.setCell hg0 _)⟩
      · obtain rfl : j = l.length := by omega
        clear HY HS4 hj1 hj2 hlt
        have HC5 := Lib.hid (Kd.R_reads' HV.out).2.2
        have HWr := Lib.hid (HB3.out.trans (HBr.out.mono HB3.out.size))
        have HXr := Lib.hid (HX3.out.below HBr.out)
        have HRr := Lib.hid (HR3.out.below HBr.out)
        have HC2r := Lib.hid (Kd.C_below HC2.out HBr.out)
        clear HV HBr HX3 HR3 HC2 HB3
        have hq := rread_any l B cb wr (Kd.C_below HBc.out HWr.out) HK.out.2.1 HO.out (by have := HK.out; omega)
        rw [HPe.out] at hq
        dsimp only [rdE, ptV] at hq
        have HQ := Lib.hid hq
        clear hq
        go_upto_region 12 with (go_at_call 26; refine HQ.out.mono ?_; rintro e w7 ⟨A7, c7, rfl, hC7, hb7⟩; (have HC7 := Lib.hid (Kd.C_below hC7 hb7)); (have HXs := Lib.hid (HXr.out.below hb7)); (have HRs := Lib.hid (HRr.out.below hb7)); (have HPs := Lib.hid (HP.out.below hb7)); (have HC5s := Lib.hid (Kd.C_below HC5.out hb7)); (have HC2s := Lib.hid (Kd.C_below HC2r.out hb7)); (have HWs := Lib.hid (HWr.out.trans (hb7.mono HWr.out.size))); clear hC7 hb7 HQ)
        clear HXr HRr HP HC5 HC2r HWr
        refine wp_at fun W8 hW8 => ?_
        have HX8 := Lib.hid (show P4 tP w.heap.size id ix ct (.slice A d.length c) W8 from hW8 ▸ blk_alloc HXs.out _)
        have HR8 := Lib.hid (show P4 tR w1.heap.size id ix ct (.slice A d.length c) W8 from hW8 ▸ blk_alloc HRs.out _)
        have HP8 := Lib.hid (show P4 tP w5.heap.size y0 y1 y2 (.slice A5 y3.length c5) W8 from hW8 ▸ blk_alloc HPs.out _)
        have HY8 := Lib.hid (show P4 tR w7.heap.size y0 y1 y2 (.slice A7 y3.length c7) W8 from hW8 ▸ P4.mk w7 tR y0 y1 y2 (.slice A7 y3.length c7))
        have HC58 := Lib.hid (show (Kd.int .u8).C W8 A5 y3.length y3 from hW8 ▸ Kd.C_alloc HC5s.out _)
        have HC78 := Lib.hid (show (Kd.int .u8).C W8 A7 y3.length y3 from hW8 ▸ Kd.C_alloc HC7.out _)
        have HC28 := Lib.hid (show (Kd.int .u8).C W8 A2 yl (wrL id ix ct d) from hW8 ▸ Kd.C_alloc HC2s.out _)
        have HW8 := Lib.hid (show Below w.heap.size w W8 from hW8 ▸ HWs.out.alloc HWs.out.size _)
        clear hW8 HXs HRs HPs HC5s HC7 HC2s HWs
        have hb0 := stay0 W8
        have HXd := Lib.hid (show P4 tP w.heap.size id ix ct (.slice A d.length c) W8.drew from HX8.out)
        have HRd := Lib.hid (show P4 tR w1.heap.size id ix ct (.slice A d.length c) W8.drew from HR8.out)
        refine Q.wp_region_segs none [([0, 2], some 1), ([], some 3), ([4, 5, 6, 7, 8, 9, 10, 11, 13], some 12), ([], some 14), ([15, 16], none)] (by kernel_rfl) (by kernel_rfl) (by kernel_rfl) (by kernel_rfl) ?_
        dsimp only [Q.wpSegs, Q.picks, Q.pick]
        refine quiet_loadG tP (.tmp 2) (.pointer (some ⟨w.heap.size, 0, none⟩)) (.agg #[.int .u64 id, .int .i64 ix, .int .i64 ct, .slice A d.length c]) rfl rfl rfl (HXd.out.loadP (by exact HX8.out.lt)) ?_
        go_simp
        refine quiet_loadG tR (.tmp 5) (.pointer (some ⟨w1.heap.size, 0, none⟩)) (.agg #[.int .u64 id, .int .i64 ix, .int .i64 ct, .slice A d.length c]) rfl rfl rfl (HRd.out.loadR (by exact HR8.out.lt)) ?_
        go_simp
        refine wpQuiet_nil ?_
        obtain ⟨rz, hrz⟩ : ∃ r, rightZ id ix ct d.length = r := ⟨_, rfl⟩
        have hq1 := fun W => right_any id ix ct A d.length c W
        have hq2 := fun W => rright_any id ix ct A d.length c W HI.out
        rw [hrz] at hq1 hq2
        have HQ1 := Lib.hid hq1
        have HQ2 := Lib.hid hq2
        have HRz := Lib.hid hrz
        clear hq1 hq2 hrz
        go_wp2_with (go_at_call 27; refine (HQ1.out _).mono ?_; rintro e Y1 ⟨rfl, hb⟩; (have hbs := stay1 hb0 hb); (have HX1 := Lib.hid (HX8.out.below hbs)); (have HR1 := Lib.hid (HR8.out.below hbs)); (have HP1 := Lib.hid (HP8.out.below hbs)); (have HY1 := Lib.hid (HY8.out.below hbs)); (have HC51 := Lib.hid (Kd.C_below HC58.out hbs)); (have HC71 := Lib.hid (Kd.C_below HC78.out hbs)); (have HC21 := Lib.hid (Kd.C_below HC28.out hbs)); (have HW1 := Lib.hid (HW8.out.trans (hbs.mono HW8.out.size))); (have Hb := Lib.hid hb); clear hb hbs HQ1)
        refine Q.ev_done Hb.out (Nat.le_refl _) ?_
        clear Hb hb0 HXd HRd HX8 HR8 HP8 HY8 HC58 HC78 HC28 HW8
        refine wpQuiet_nil ?_
        go_wp2_with (go_at_call 28; refine (HQ2.out _).mono ?_; rintro e Y2 ⟨rfl, hb⟩; (have HX2 := Lib.hid (HX1.out.below hb)); (have HR2 := Lib.hid (HR1.out.below hb)); (have HP2 := Lib.hid (HP1.out.below hb)); (have HY2 := Lib.hid (HY1.out.below hb)); (have HC52 := Lib.hid (Kd.C_below HC51.out hb)); (have HC72 := Lib.hid (Kd.C_below HC71.out hb)); (have HC22 := Lib.hid (Kd.C_below HC21.out hb)); (have HW2 := Lib.hid (HW1.out.trans (hb.mono HW1.out.size))); (have Hb := Lib.hid hb); clear hb)
        refine Q.ev_done Hb.out (Nat.le_refl _) ?_
        clear Hb HX1 HR1 HP1 HY1 HC51 HC71 HC21 HW1
        have tb : (rz != rz) = false := by cases rz <;> rfl
        go_big_quiet_step (fail)
        go_big_quiet_step (fail)
        go_big_quiet_step (fail)
        go_big_quiet_step (fail)
        go_big_quiet_step (fail)
        go_big_quiet_step (fail)
        go_big_quiet_step (fail)
        refine quiet_loadG tP (.tmp 9) (.pointer (some ⟨w5.heap.size, 0, none⟩)) (.agg #[.int .u64 y0, .int .i64 y1, .int .i64 y2, .slice A5 y3.length c5]) rfl rfl rfl (HP2.out.loadP (by exact HP2.out.lt)) ?_
        go_simp
        refine quiet_loadG tR (.tmp 12) (.pointer (some ⟨w7.heap.size, 0, none⟩)) (.agg #[.int .u64 y0, .int .i64 y1, .int .i64 y2, .slice A7 y3.length c7]) rfl rfl rfl (HY2.out.loadR (by exact HY2.out.lt)) ?_
        go_simp
        repeat (go_big_quiet_step (fail))
        refine wpQuiet_nil ?_
        go_wp2_with (go_at_call 20; refine (as_any y0 y1 y2 A5 y3.length c5 _).mono ?_; rintro e Y3 ⟨rfl, hb⟩; (have HX3 := Lib.hid (HX2.out.below hb)); (have HR3 := Lib.hid (HR2.out.below hb)); (have HP3 := Lib.hid (HP2.out.below hb)); (have HY3 := Lib.hid (HY2.out.below hb)); (have HC53 := Lib.hid (Kd.C_below HC52.out hb)); (have HC73 := Lib.hid (Kd.C_below HC72.out hb)); (have HC23 := Lib.hid (Kd.C_below HC22.out hb)); (have HW3 := Lib.hid (HW2.out.trans (hb.mono HW2.out.size))); (have Hb := Lib.hid hb); clear hb)
        refine Q.ev_done Hb.out (Nat.le_refl _) ?_
        clear Hb HX2 HR2 HP2 HY2 HC52 HC72 HC22 HW2
        refine wpQuiet_nil ?_
        go_wp2_with (go_at_call 19; refine (same_yes y0 y1 y2 y3 A5 A7 c5 c7 _ HC53.out HC73.out).mono ?_; rintro e Y4 ⟨rfl, hb⟩; (have HX4 := Lib.hid (HX3.out.below hb)); (have HR4 := Lib.hid (HR3.out.below hb)); (have HP4 := Lib.hid (HP3.out.below hb)); (have HY4 := Lib.hid (HY3.out.below hb)); (have HC54 := Lib.hid (Kd.C_below HC53.out hb)); (have HC74 := Lib.hid (Kd.C_below HC73.out hb)); (have HC24 := Lib.hid (Kd.C_below HC23.out hb)); (have HW4 := Lib.hid (HW3.out.trans (hb.mono HW3.out.size))); (have Hb := Lib.hid hb); clear hb)
        refine Q.ev_done Hb.out (Nat.le_refl _) ?_
        clear Hb HX3 HR3 HP3 HY3 HC53 HC73 HC23 HW3
        repeat (go_big_quiet_step (fail))
        refine wpQuiet_nil ?_
        refine NoPanic.normal ?_
        clear tb
        have k0 := HR4.out.c0
        have k1 := HR4.out.c1
        have k2 := HR4.out.c2
        have k3 := HR4.out.c3
        cases rz with
        | false =>
          have hwe : we = 3 := by rw [← HWe.out]; exact if_neg (by rw [HRz.out]; decide)
          have hyl : yl = 0 := by rw [← HYl.out, show wrL id ix ct d = [] from if_neg (by rw [HRz.out]; decide)]; rfl
          subst hwe
          subst hyl
          go_wp2_with (first
            | (go_at_call 28; refine (HQ2.out _).mono ?_; rintro e Y5 ⟨rfl, hb⟩; (have HW5 := Lib.hid (HW4.out.trans (hb.mono HW4.out.size))); clear hb)
            | (go_at_call 15; refine (alive_any _).mono ?_; rintro e Y6 ⟨rfl, hb⟩; (have HW6 := Lib.hid (HW5.out.trans (hb.mono HW5.out.size))); clear hb))
          go_ret
          exact ⟨rfl, HW6.out⟩
        | true =>
          have hwe : we = 0 := by rw [← HWe.out]; exact if_pos HRz.out
          subst hwe
          go_upto_region 16 with (go_at_call 28; refine (HQ2.out _).mono ?_; rintro e Y5 ⟨rfl, hb⟩; (have HR5 := Lib.hid (HR4.out.below hb)); (have HC25 := Lib.hid (Kd.C_below HC24.out hb)); (have HW5 := Lib.hid (HW4.out.trans (hb.mono HW4.out.size))); clear hb k0 k1 k2 k3)
          have hb0 := stay0 Y5
          refine Q.wp_region_segs none [([], some 0), ([1, 2, 3, 4, 5, 6, 7, 8], some 9), ([10, 11, 12, 13], none)] (by kernel_rfl) (by kernel_rfl) (by kernel_rfl) (by kernel_rfl) ?_
          dsimp only [Q.wpSegs, Q.picks, Q.pick]
          refine wpQuiet_nil ?_
          go_wp2_with (go_at_call 15; refine (alive_any _).mono ?_; rintro e Y6 ⟨rfl, hb⟩; (have hbs := stay1 hb0 hb); (have HR6 := Lib.hid (HR5.out.below hbs)); (have HC26 := Lib.hid (Kd.C_below HC25.out hbs)); (have HW6 := Lib.hid (HW5.out.trans (hbs.mono HW5.out.size))); (have Hb := Lib.hid hb); clear hb hbs)
          refine Q.ev_done Hb.out (Nat.le_refl _) ?_
          clear Hb hb0
          have q1 : ∀ n : Q.GW Y6 Y6.heap.size none, (convert 23 9 (.slice A2 yl q2)).run Try.prog n.w = .ok (.string (strOfNums (wrL id ix ct d))) n.w := fun n => Kd.C_string Try.underlying23 Try.underlying5 Try.underlying9 (Kd.C_below HC26.out n.below)
          repeat (go_big_quiet_step (fail))
          refine quiet_loadG tR (.tmp 5) (.pointer (some ⟨w1.heap.size, 0, none⟩)) (.agg #[.int .u64 id, .int .i64 ix, .int .i64 ct, .slice A d.length c]) rfl rfl rfl (HR6.out.loadR (by exact HR6.out.lt)) ?_
          go_simp
          repeat (go_big_quiet_step (fail))
          refine wpQuiet_nil ?_
          clear q1
          have hq := rwrite_any id ix ct d A c Y6 (Kd.C_below HC.out HW6.out) HRz.out
          have HQ := Lib.hid hq
          clear hq
          go_wp2_with (go_at_call 29; refine HQ.out.mono ?_; rintro e Y7 ⟨v, rfl, hv, hb⟩; obtain ⟨A9, q9, rfl, hq9, hC9⟩ := Kd.R_reads hv; (have HC9 := Lib.hid hC9); (have HW7 := Lib.hid (HW6.out.trans (hb.mono HW6.out.size))); (have Hb := Lib.hid hb); clear hb hv hq9 hC9 HQ)
          refine Q.ev_done Hb.out (Nat.le_refl _) ?_
          clear Hb
          have q1 : ∀ n : Q.GW Y7 Y7.heap.size none, (convert 23 9 (.slice A9 (wrL id ix ct d).length q9)).run Try.prog n.w = .ok (.string (strOfNums (wrL id ix ct d))) n.w := fun n => Kd.C_string Try.underlying23 Try.underlying5 Try.underlying9 (Kd.C_below HC9.out n.below)
          repeat (go_big_quiet_step (fail))
          refine wpQuiet_nil ?_
          refine NoPanic.normal ?_
          go_wp2_with fail
          go_ret
          exact ⟨rfl, HW7.out⟩
end Go.Proofs.Ythgdbdhonhkkpaa.Fg
