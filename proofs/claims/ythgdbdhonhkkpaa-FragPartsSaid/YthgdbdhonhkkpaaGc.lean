/-
  frag: Join.
-/
import Derived.Test.YthgdbdhonhkkpaaGb
import Derived.Test.YthgdbdhonhkkpaaNq
namespace Go.Proofs.Ythgdbdhonhkkpaa.Fg
open Go.RowKit Go.Proofs.Ythgdbdhonhkkpaa.L Go.Proofs.Ythgdbdhonhkkpaa.V Go.Proofs.Ythgdbdhonhkkpaa.N Go.Proofs.YthgdbdhonhkkpaaW.PrintWords

theorem gwB {w : World} {B b o : Nat} {v : Value} (hb : b < B) (h : w.cell? ⟨b, o, none⟩ = some v) : ∀ m : Q.GW w B none, m.w.cell? ⟨b, o, none⟩ = some v := fun m => ((m.belowB (Nat.le_refl B) (fun _ h => by cases h)).cell (p := ⟨b, o, none⟩) hb).trans h
/-- is the part at this place wrong? -/
def badP (id0 : Int) (n : Nat) (m : Nat) (p : Pt) : Bool := !(decide (rightZ p.1 p.2.1 p.2.2.1 p.2.2.2.length = true ∧ p.1 = id0 ∧ p.2.2.1 = (n : Int) ∧ p.2.1 = (m : Int)))
set_option maxRecDepth 100000 in
set_option maxHeartbeats 1600000 in
theorem join1_any (id ix ct id0 : Int) (d : List Int) (n m c cl off b gi gl : Nat) (A : Option Addr) (w : World) (hI : w.heap[gi]? = some (.cells #[.int .i64 (m : Int)] 3 (0, 0))) (hL : w.heap[gl]? = some (.cells #[.slice (some ⟨b, off, none⟩) n cl] 24 (0, 0)))
    (hb : w.cell? ⟨b, off, none⟩ = some (.int .u64 id0)) (hbl : b < w.heap.size) (hgb : gi ≠ b) (hgl : gi ≠ gl) (hn : 0 < n) (hn2 : n ≤ 9223372036854775807) (hm : m < n) :
    Calls Try.prog 58 #[.agg #[.int .u64 id, .int .i64 ix, .int .i64 ct, .slice A d.length c], .pointer (some ⟨gi, 0, none⟩), .pointer (some ⟨gl, 0, none⟩)] w fun e w' => e = .returned (.bool (badP id0 n m (id, ix, ct, d))) ∧ w.grownBy w' (some gi) ∧ w'.heap[gi]? = some (.cells #[.int .i64 ((m + 1 : Nat) : Int)] 3 (0, 0)) := by
  have hX := heap_alloc_new w (.cells #[.int .u64 id, .int .i64 ix, .int .i64 ct, .slice A d.length c] 38)
  have hB0 : Below w.heap.size w (w.alloc (.cells #[.int .u64 id, .int .i64 ix, .int .i64 ct, .slice A d.length c] 38)) := (Below.refl _ _).alloc (Nat.le_refl _) _
  have hI0 := blk_below hI hB0
  have hL0 := blk_below hL hB0
  have hb0 := (hB0.cell (p := ⟨b, off, none⟩) hbl).trans hb
  have ci : (w.alloc (.cells #[.int .u64 id, .int .i64 ix, .int .i64 ct, .slice A d.length c] 38)).cell? ⟨gi, 0, none⟩ = some (.int .i64 (m : Int)) := by rw [blk_cell hI0]; rfl
  have cf := blk_frozen hI0 0
  have hgi := blk_lt hI
  have z1 : (m : Int) + 1 ≤ 9223372036854775807 := by omega
  have z2 : (0 : Int) ≤ (m : Int) := by omega
  have hg1 : w.grownBy ((w.alloc (.cells #[.int .u64 id, .int .i64 ix, .int .i64 ct, .slice A d.length c] 38)).setCell ⟨gi, 0, none⟩ (.int .i64 ((m : Int) + 1))) (some gi) := (grown_below hB0 (some gi)).trans (grown_set _ _ _ _)
  have hI1 := blk_set hI0 0 (.int .i64 ((m : Int) + 1))
  have hX1 := blk_far hX (p := ⟨gi, 0, none⟩) (by show w.heap.size ≠ gi; omega) (.int .i64 ((m : Int) + 1))
  have hL1 := blk_far hL0 (p := ⟨gi, 0, none⟩) (by show gl ≠ gi; omega) (.int .i64 ((m : Int) + 1))
  have hb1 : ((w.alloc (.cells #[.int .u64 id, .int .i64 ix, .int .i64 ct, .slice A d.length c] 38)).setCell ⟨gi, 0, none⟩ (.int .i64 ((m : Int) + 1))).cell? ⟨b, off, none⟩ = some (.int .u64 id0) := (World.cell?_of_block (by exact Below.heap_setCell _ _ _ b (by show b ≠ gi; omega))).trans hb0
  have HG1 := Lib.hid hg1
  have HI1 := Lib.hid hI1
  have HX1 := Lib.hid hX1
  have HL1 := Lib.hid hL1
  have Hb1 := Lib.hid hb1
  have HN := Lib.hid (show 0 < n ∧ n ≤ 9223372036854775807 ∧ m < n ∧ gi < w.heap.size ∧ gl < w.heap.size ∧ b < w.heap.size from ⟨hn, hn2, hm, hgi, blk_lt hL, hbl⟩)
  clear hI hL hb hX hB0 hI0 hL0 hb0 hg1 hI1 hX1 hL1 hb1 hgi hbl hgb hgl hm
  go_enter Try.func58, Try.ntmps58
  go_wp2_with fail
  refine wp_at fun W hW => ?_
  rw [← hW] at HG1 HI1 HX1 HL1 Hb1
  have HWs := Lib.hid (show W.heap.size = w.heap.size + 1 from by rw [hW]; simp)
  clear hW ci cf
  have x0 := gwB (w := W.drew) (B := W.heap.size) (blk_lt HX1.out) (show W.drew.cell? ⟨w.heap.size, 0, none⟩ = some (.int .u64 id) from (blk_cell HX1.out 0).trans rfl)
  have x1 := gwB (w := W.drew) (B := W.heap.size) (blk_lt HX1.out) (show W.drew.cell? ⟨w.heap.size, 1, none⟩ = some (.int .i64 ix) from (blk_cell HX1.out 1).trans rfl)
  have x2 := gwB (w := W.drew) (B := W.heap.size) (blk_lt HX1.out) (show W.drew.cell? ⟨w.heap.size, 2, none⟩ = some (.int .i64 ct) from (blk_cell HX1.out 2).trans rfl)
  have x3 := gwB (w := W.drew) (B := W.heap.size) (blk_lt HX1.out) (show W.drew.cell? ⟨w.heap.size, 3, none⟩ = some (.slice A d.length c) from (blk_cell HX1.out 3).trans rfl)
  refine Q.wp_region_segs none [([0], some 1), ([2, 3, 4, 5, 6, 7, 8, 9, 10, 11, 12, 13, 14, 15, 16, 17, 18, 19, 20, 21, 22, 23, 24, 25, 26], none)] (by kernel_rfl) (by kernel_rfl) (by kernel_rfl) (by kernel_rfl) ?_
  dsimp only [Q.wpSegs, Q.picks, Q.pick]
  repeat (go_big_quiet_step (fail))
  refine wpQuiet_nil ?_
  clear x0 x1 x2 x3
  have hr := right_any id ix ct A d.length c W.drew
  obtain ⟨r, hrr⟩ : ∃ r, rightZ id ix ct d.length = r := ⟨_, rfl⟩
  rw [hrr] at hr
  have HR := Lib.hid hr
  have HRr := Lib.hid hrr
  clear hr hrr
  go_wp2_with (go_at_call 27; refine HR.out.mono ?_; rintro e w2 ⟨rfl, hb2⟩; (have HB2 := Lib.hid hb2); clear hb2 HR)
  refine Q.ev_keep HB2.out (Nat.le_refl _) ?_
  have HG2 := Lib.hid (HG1.out.trans ((grown_drew W (some gi)).trans (grown_below HB2.out (some gi))))
  have HI2 := Lib.hid ((HB2.out.block gi (by have := HN.out; have := HWs.out; show gi < W.heap.size; omega)).trans HI1.out)
  have hX2 := (HB2.out.block w.heap.size (blk_lt HX1.out)).trans HX1.out
  have hL2 := (HB2.out.block gl (blk_lt HL1.out)).trans HL1.out
  have hb2 := (HB2.out.cell (p := ⟨b, off, none⟩) (by have := HN.out; have := HWs.out; show b < W.heap.size; omega)).trans Hb1.out
  have x0 := gwB (w := w2) (B := W.heap.size) (blk_lt HX1.out) (show w2.cell? ⟨w.heap.size, 0, none⟩ = some (.int .u64 id) from (blk_cell hX2 0).trans rfl)
  have x1 := gwB (w := w2) (B := W.heap.size) (blk_lt HX1.out) (show w2.cell? ⟨w.heap.size, 1, none⟩ = some (.int .i64 ix) from (blk_cell hX2 1).trans rfl)
  have x2 := gwB (w := w2) (B := W.heap.size) (blk_lt HX1.out) (show w2.cell? ⟨w.heap.size, 2, none⟩ = some (.int .i64 ct) from (blk_cell hX2 2).trans rfl)
  have xi := gwB (w := w2) (B := W.heap.size) (blk_lt HI1.out) (show w2.cell? ⟨gi, 0, none⟩ = some (.int .i64 ((m : Int) + 1)) from (blk_cell HI2.out 0).trans rfl)
  have xl := gwB (w := w2) (B := W.heap.size) (blk_lt HL1.out) (show w2.cell? ⟨gl, 0, none⟩ = some (.slice (some ⟨b, off, none⟩) n cl) from (blk_cell hL2 0).trans rfl)
  have xb := gwB (w := w2) (B := W.heap.size) (by have := HN.out; have := HWs.out; show b < W.heap.size; omega) hb2
  have z3 : (0 : Int) < (n : Int) := by omega
  clear hX2 hL2 hb2 HX1 HL1 Hb1 HI1 HG1 HB2 hn2
  cases r with
  | false =>
    have He := Lib.hid (show badP id0 n m (id, ix, ct, d) = true from by unfold badP; simp only [HRr.out]; simp)
    repeat (go_big_quiet_step (fail))
    refine wpQuiet_nil ?_
    refine NoPanic.normal ?_
    go_wp2_with fail
    go_ret
    exact ⟨by rw [He.out]; rfl, HG2.out, HI2.out⟩
  | true =>
    by_cases h1 : id = id0
    · have t1 : (id == id0) = true := by rw [beq_iff_eq]; exact h1
      have t1n : (id != id0) = false := by rw [bne, t1]; rfl
      by_cases h2 : ct = (n : Int)
      · have t2 : (ct == (n : Int)) = true := by rw [beq_iff_eq]; exact h2
        have t2n : (ct != (n : Int)) = false := by rw [bne, t2]; rfl
        by_cases h3 : ix = (m : Int)
        · have He := Lib.hid (show badP id0 n m (id, ix, ct, d) = false from by unfold badP; simp only [HRr.out]; simp [h1, h2, h3])
          have t3 : (ix == (m : Int)) = true := by rw [beq_iff_eq]; exact h3
          have t3n : (ix != (m : Int)) = false := by rw [bne, t3]; rfl
          have t4 : (ix == (m : Int) + 1 - 1) = true := by rw [beq_iff_eq]; omega
          have t4n : (ix != (m : Int) + 1 - 1) = false := by rw [bne, t4]; rfl
          clear h1 h2 h3
          repeat (go_big_quiet_step (fail))
          refine wpQuiet_nil ?_
          refine NoPanic.normal ?_
          go_wp2_with fail
          go_ret
          exact ⟨by rw [He.out]; rfl, HG2.out, HI2.out⟩
        · have He := Lib.hid (show badP id0 n m (id, ix, ct, d) = true from by unfold badP; simp only [HRr.out]; simp [h3])
          have t3 : (ix == (m : Int)) = false := by rw [beq_eq_false_iff_ne]; exact h3
          have t3n : (ix != (m : Int)) = true := by rw [bne, t3]; rfl
          have t4 : (ix == (m : Int) + 1 - 1) = false := by rw [beq_eq_false_iff_ne]; omega
          have t4n : (ix != (m : Int) + 1 - 1) = true := by rw [bne, t4]; rfl
          clear h1 h2 h3
          repeat (go_big_quiet_step (fail))
          refine wpQuiet_nil ?_
          refine NoPanic.normal ?_
          go_wp2_with fail
          go_ret
          exact ⟨by rw [He.out]; rfl, HG2.out, HI2.out⟩
      · have He := Lib.hid (show badP id0 n m (id, ix, ct, d) = true from by unfold badP; simp only [HRr.out]; simp [h2])
        have t2 : (ct == (n : Int)) = false := by rw [beq_eq_false_iff_ne]; exact h2
        have t2n : (ct != (n : Int)) = true := by rw [bne, t2]; rfl
        clear h1 h2
        repeat (go_big_quiet_step (fail))
        refine wpQuiet_nil ?_
        refine NoPanic.normal ?_
        go_wp2_with fail
        go_ret
        exact ⟨by rw [He.out]; rfl, HG2.out, HI2.out⟩
    · have He := Lib.hid (show badP id0 n m (id, ix, ct, d) = true from by unfold badP; simp only [HRr.out]; simp [h1])
      have t1 : (id == id0) = false := by rw [beq_eq_false_iff_ne]; exact h1
      have t1n : (id != id0) = true := by rw [bne, t1]; rfl
      clear h1
      repeat (go_big_quiet_step (fail))
      refine wpQuiet_nil ?_
      refine NoPanic.normal ?_
      go_wp2_with fail
      go_ret
      exact ⟨by rw [He.out]; rfl, HG2.out, HI2.out⟩
end Go.Proofs.Ythgdbdhonhkkpaa.Fg
