/-
  crc: Close; slices.Equal of bytes; Ends.
-/
import Derived.Test.YtagfplcafeblbaaCd
import Derived.Test.YtagfplcafeblbaaSc
import Derived.Test.YtagfplcafeblbaaQd
namespace Go.Proofs.Ytagfplcafeblbaa.C
open Go.RowKit Go.Proofs.Ytagfplcafeblbaa.L Go.Proofs.YtagfplcafeblbaaW.PrintWords

/-- bytes, closed -/
def clN (l : List Nat) : List Nat := l ++ le4 (ofN l)
theorem natB_app (a b : List Nat) : natB (a ++ b) = natB a ++ natB b := by simp [natB]
theorem natB_take (l : List Nat) (m : Nat) : (natB l).take m = natB (l.take m) := by simp [natB]
theorem ofN_lt {l : List Nat} (hl : ∀ x ∈ l, x < 256) : ofN l < 4294967296 := sum_lt (by omega) hl
set_option maxHeartbeats 1600000 in
set_option maxRecDepth 100000 in
theorem equal_any (l1 l2 : List Int) (A1 A2 : Option Addr) (c1 c2 : Nat) (w : World) (h1 : (Kd.int .u8).C w A1 l1.length l1) (h2 : (Kd.int .u8).C w A2 l2.length l2) :
    Calls Try.prog 49 #[.slice A1 l1.length c1, .slice A2 l2.length c2] w fun e w' => e = .returned (.bool (decide (l1 = l2))) ∧ Below w.heap.size w w' := by
  have H1 := Lib.hid h1
  have H2 := Lib.hid h2
  have hm1 := (C_open h1).1
  clear h1 h2
  obtain ⟨R, hR⟩ : ∃ R, R = decide (l1 = l2) := ⟨_, rfl⟩
  rw [← hR]
  have HR := Lib.hid hR
  clear hR
  by_cases hlen : l1.length = l2.length
  · have z0 : decide ((l1.length : Int) = (l2.length : Int)) = true := decide_eq_true (by omega)
    have z1 : ((l1.length : Int) == (l2.length : Int)) = true := by simp [hlen]
    have HE := Lib.hid hlen
    clear hlen
    go_enter Try.func49, Try.ntmps49
    go_wp2_with fail
    go_loopg [13] (l1.length + 1) (fun g v13 w' => ∃ i : Nat, v13 = .int .i64 i ∧ Hid (i ≤ l1.length ∧ l1.length < g + i) ∧ Hid (∀ j, j < i → l1.getD j 0 = l2.getD j 0) ∧ Hid (Below w.heap.size w w'))
    case atStart => exact ⟨0, rfl, Lib.hid ⟨by omega, by omega⟩, Lib.hid (fun j h => by omega), Lib.hid (Below.refl _ _)⟩
    case round =>
      obtain ⟨i, rfl, HJ, HP, HB⟩ := hrel
      cases gk with
      | zero => have := HJ.out; omega
      | succ k =>
        by_cases hlt : i < l1.length
        · have HJ' := Lib.hid (show i < l1.length ∧ l1.length < (k + 1) + i from ⟨hlt, HJ.out.2⟩)
          rcases (C_open H1.out).2 with e | ⟨b1, o1, rfl, hb1, hc1⟩
          · subst e; simp at hlt
          rcases (C_open H2.out).2 with e | ⟨b2, o2, rfl, hb2, hc2⟩
          · have := HE.out; subst e; simp at this; subst this; simp at hlt
          have hlt2 : i < l2.length := by rw [← HE.out]; exact hlt
          have q1 := hc1 i hlt
          have q2 := hc2 i hlt2
          clear hc1 hc2
          obtain ⟨x, hx⟩ : ∃ x, l1.getD i 0 = x := ⟨_, rfl⟩
          obtain ⟨y, hy⟩ : ∃ y, l2.getD i 0 = y := ⟨_, rfl⟩
          rw [hx] at q1
          rw [hy] at q2
          have r1 : wr.drew.cell? ⟨b1, o1 + i, none⟩ = some (.int .u8 x) := (HB.out.drew.cell (p := ⟨b1, o1 + i, none⟩) hb1).trans q1
          have r2 : wr.drew.cell? ⟨b2, o2 + i, none⟩ = some (.int .u8 y) := (HB.out.drew.cell (p := ⟨b2, o2 + i, none⟩) hb2).trans q2
          have g1 : ∀ m : Q.GW wr.drew w.heap.size none, m.w.cell? ⟨b1, o1 + i, none⟩ = some (.int .u8 x) := fun m => ((m.belowB (Nat.le_refl _) (fun _ h => by cases h)).cell (p := ⟨b1, o1 + i, none⟩) hb1).trans r1
          have g2 : ∀ m : Q.GW wr.drew w.heap.size none, m.w.cell? ⟨b2, o2 + i, none⟩ = some (.int .u8 y) := fun m => ((m.belowB (Nat.le_refl _) (fun _ h => by cases h)).cell (p := ⟨b2, o2 + i, none⟩) hb2).trans r2
          have z4 : (i : Int) < (l1.length : Int) := by omega
          have z5 : (i : Int) < (l2.length : Int) := by omega
          have z6 : (0 : Int) ≤ (i : Int) := by omega
          have HX := Lib.hid (show l1.getD i 0 = x ∧ l2.getD i 0 = y from ⟨hx, hy⟩)
          clear hx hy q1 q2 HJ hb1 hb2 r1 r2
          by_cases hxy : x = y
          · subst hxy
            go_wp2_with fail
            refine Q.wp_region_segsB w.heap.size none [([0, 1, 2, 3, 4, 5, 6, 7, 8], none)] (by kernel_rfl) (by kernel_rfl) (by kernel_rfl) (by kernel_rfl) ?_
            dsimp only [Q.wpSegs, Q.picks, Q.pick]
            repeat (go_big_quiet_step (fail))
            refine wpQuiet_nil ?_
            refine NoPanic.normal ?_
            go_wp2
            go_roundg k
            case measure => have := HJ'.out; omega
            case rel => exact ⟨i + 1, by go_num, Lib.hid (by have := HJ'.out; omega), Lib.hid (fun j hj => by
              rcases Nat.lt_succ_iff_lt_or_eq.1 hj with h | rfl
              · exact HP.out j h
              · exact HX.out.1.trans HX.out.2.symm), Lib.hid HB.out.drew⟩
          · have z2 : (x == y) = false := beq_eq_false_iff_ne.2 hxy
            have z3 : decide (x = y) = false := decide_eq_false hxy
            go_wp2_with fail
            refine Q.wp_region_segsB w.heap.size none [([0, 1, 2, 3, 4, 5, 6, 7, 8], none)] (by kernel_rfl) (by kernel_rfl) (by kernel_rfl) (by kernel_rfl) ?_
            dsimp only [Q.wpSegs, Q.picks, Q.pick]
            repeat (go_big_quiet_step (fail))
            refine wpQuiet_nil ?_
            refine NoPanic.normal ?_
            go_wp2
            go_ret
            refine ⟨?_, HB.out.drew⟩
            have : R = false := by
              rw [HR.out]
              refine decide_eq_false (fun h => hxy ?_)
              rw [← HX.out.1, ← HX.out.2, h]
            rw [this]
            rfl
        · have hi : i = l1.length := by have := HJ.out; omega
          go_wp2
          go_ret
          refine ⟨?_, HB.out⟩
          have : R = true := by
            rw [HR.out]
            refine decide_eq_true (List.ext_getElem HE.out (fun j ha hb => ?_))
            have := HP.out j (by omega)
            rwa [List.getD_eq_getElem?_getD, List.getElem?_eq_getElem ha, List.getD_eq_getElem?_getD, List.getElem?_eq_getElem hb] at this
          rw [this]
          rfl
  · have z0 : decide ((l1.length : Int) = (l2.length : Int)) = false := decide_eq_false (by omega)
    have z1 : ((l1.length : Int) == (l2.length : Int)) = false := beq_eq_false_iff_ne.2 (by omega)
    have hRF : R = false := by
      rw [HR.out]
      exact decide_eq_false (fun h => hlen (by rw [h]))
    rw [hRF]
    clear hRF HR
    go_enter Try.func49, Try.ntmps49
    go_wp2
    go_ret
    exact ⟨rfl, Below.refl _ _⟩
set_option maxHeartbeats 1600000 in
set_option maxRecDepth 100000 in
theorem close_any (l : List Nat) (A : Option Addr) (c : Nat) (w : World) (hC : (Kd.int .u8).C w A l.length (natB l)) (hl : ∀ x ∈ l, x < 256) (hm : l.length ≤ 140737488355320) :
    Calls Try.prog 28 #[.slice A l.length c] w fun e w' => ∃ v, e = .returned v ∧ (Kd.int .u8).R 5 w' w.heap.size (fun _ => True) v (natB (clN l)) ∧ Below w.heap.size w w' := by
  have HC := Lib.hid hC
  have HL := Lib.hid hl
  have HM := Lib.hid hm
  have HN := Lib.hid (ofN_lt hl)
  clear hC hl hm
  go_enter Try.func28, Try.ntmps28
  go_wp2_with fail
  refine (of_any l A c _ HC.out HL.out).mono ?_
  rintro e w1 ⟨rfl, hb1⟩
  have HB1 := Lib.hid hb1
  clear hb1
  go_wp2_with fail
  refine (bytes_any (ofN l) w1 HN.out).mono ?_
  rintro e w2 ⟨rfl, hb2⟩
  have HB2 := Lib.hid (HB1.out.trans (hb2.mono HB1.out.size))
  clear hb2
  go_wp2_with fail
  refine Q.wp_region_segsB w.heap.size none [([0, 2], some 1), ([], some 3), ([4], none)] (by kernel_rfl) (by kernel_rfl) (by kernel_rfl) (by kernel_rfl) ?_
  dsimp only [Q.wpSegs, Q.picks, Q.pick]
  repeat (go_big_quiet_step (fail))
  refine wpQuiet_nil ?_
  have hk : ∀ (f : Nat → Int), natB (le4 (ofN l)) = [((ofN l : Nat) : Int) % 256, ((ofN l : Nat) : Int) / 256 % 256, ((ofN l : Nat) : Int) / 65536 % 256, ((ofN l : Nat) : Int) / 16777216 % 256] := fun _ => by simp [natB, le4_get]
  have HLE := Lib.hid (hk (fun _ => 0))
  clear hk
  go_wp2_with (go_at_call 48; refine (S.clone_n (natB l) l.length (natB_length l) A c _ (Kd.C_below HC.out ((HB2.out.alloc HB2.out.size _).drew)) (by have := HM.out; omega)).mono ?_; rintro e w3 ⟨v3, rfl, ho3, hb3⟩; (have HB3 := Lib.hid hb3); (have HO3 := Lib.hid ho3); clear hb3 ho3)
  refine Q.ev_keep HB3.out (Nat.le_trans HB2.out.size (by simp)) ?_
  have HB4 := Lib.hid ((HB2.out.alloc HB2.out.size _).drew.trans (HB3.out.mono (Nat.le_trans HB2.out.size (by simp))))
  have hblk := (HB3.out.block w2.heap.size (by simp)).trans (heap_alloc_new w2 _)
  have hA : (Kd.int .u8).C w3 (some ⟨w2.heap.size, 0, none⟩) 4 (natB (le4 (ofN l))) := by
    refine Kd.C_of_reads (d := (0 : Int)) ⟨by simp [natB, le4_get], by omega, fun _ => ⟨_, rfl, fun j hj => ?_⟩⟩
    rw [HLE.out, add_at, blk_cell hblk]
    rcases (by omega : j = 0 ∨ j = 1 ∨ j = 2 ∨ j = 3) with h | h | h | h <;> subst h <;> rfl
  have HA := Lib.hid hA
  clear hA hblk
  repeat (go_big_quiet_step (fail))
  refine wpQuiet_nil ?_
  refine appn (w0 := w3) .u8 w.heap.size _ _ 22 5 1 rfl rfl Try.underlying22 S.info_u8 (by decide) v3 (natB l) (natB (le4 (ofN l))) _ 4 4 rfl rfl (Kd.R_mono (R_up HO3.out (Nat.le_trans HB2.out.size (by simp))) (fun _ _ => trivial)) HA.out (Below.refl _ _) HB4.out.size (by have := HM.out; rw [natB_length]; omega) ?_
  intro v1 w4 hr4 hb4 hg4
  have HR4 := Lib.hid hr4
  have HB5 := Lib.hid (HB4.out.trans hb4)
  clear hr4
  refine Q.ev_app (B' := w.heap.size) (row' := none) ⟨hb4.os, hb4.tape, hb4.output, hb4.size, fun i hi _ => hb4.block i hi⟩ (Nat.le_refl _) (Q.NewRow.none_ _ _) ?_
  clear hb4 hg4
  go_simp
  repeat (go_big_quiet_step (fail))
  refine wpQuiet_nil ?_
  refine NoPanic.normal ?_
  go_wp2
  go_ret
  refine ⟨_, rfl, ?_, HB5.out⟩
  have := HR4.out
  rwa [← natB_app] at this
/-- whether bytes end with their beginning's sum -/
def endsN (l : List Nat) : Bool := decide (4 ≤ l.length) && decide (clN (l.take (l.length - 4)) = l)
theorem natB_inj {a b : List Nat} (h : natB a = natB b) : a = b := by
  unfold natB at h
  exact (List.map_inj_right (fun x y h => by omega)).1 h
set_option maxHeartbeats 1600000 in
set_option maxRecDepth 100000 in
theorem ends_any (l : List Nat) (A : Option Addr) (c : Nat) (w : World) (hC : (Kd.int .u8).C w A l.length (natB l)) (hl : ∀ x ∈ l, x < 256) (hm : l.length ≤ 140737488355320) (hc : l.length ≤ c) :
    Calls Try.prog 30 #[.slice A l.length c] w fun e w' => e = .returned (.bool (endsN l)) ∧ Below w.heap.size w w' := by
  have hm0 : (l.length : Int) ≤ 140737488355320 := by omega
  have s1 : IntKind.i64.wrap ((l.length : Int) - 4) = (l.length : Int) - 4 := IntWalk.i64_in _ (by omega)
  by_cases h4 : 4 ≤ l.length
  · obtain ⟨m, hml⟩ : ∃ m, l.length = m + 4 := ⟨l.length - 4, by omega⟩
    have e0 : (l.length : Int) - 4 = (m : Int) := by omega
    rw [e0] at s1
    obtain ⟨i0, hi0, _⟩ := info_of S.info_u8
    have hcut := cut_to 22 5 .i64 Try.underlying22 hi0 A l.length c m (by omega) (by omega) hc
    have htl : (l.take m).length = m := by simp; omega
    have hC1 : (Kd.int .u8).C w A (l.take m).length (natB (l.take m)) := by
      have h := Kd.C_take (m := m) (show (Kd.int .u8).C w A (natB l).length (natB l) from (natB_length l).symm ▸ hC) (by rw [natB_length]; omega)
      rwa [natB_take, natB_length] at h
    have HCl := Lib.hid (close_any (l.take m) A c w hC1 (fun x hx => hl x (List.mem_of_mem_take hx)) (by omega))
    rw [htl] at HCl
    have HC := Lib.hid hC
    have z1 : (0 : Int) ≤ (m : Int) := by omega
    have hE : endsN l = decide (natB (clN (l.take m)) = natB l) := by
      unfold endsN
      rw [show l.length - 4 = m from by omega, decide_eq_true h4, Bool.true_and]
      exact decide_eq_decide.2 ⟨fun h => by rw [h], natB_inj⟩
    rw [hE]
    clear hE
    obtain ⟨RR, hRR⟩ : ∃ RR, RR = decide (natB (clN (l.take m)) = natB l) := ⟨_, rfl⟩
    rw [← hRR]
    have HRR := Lib.hid hRR
    have HM := Lib.hid hml
    clear hRR hC1 htl hC hl hm hc h4 hml
    go_enter Try.func30, Try.ntmps30
    go_wp2_with fail
    refine HCl.out.mono ?_
    rintro e w1 ⟨v, rfl, hr, hb⟩
    obtain ⟨A1, c1, rfl, hc1, hC1⟩ := Kd.R_reads hr
    have HB := Lib.hid hb
    have HEq := Lib.hid (equal_any (natB (clN (l.take m))) (natB l) A1 A c1 c w1 hC1 (by rw [natB_length]; exact Kd.C_below HC.out hb))
    clear hr hb hc1 hC1 HCl
    go_wp2_with fail
    have h := HEq.out
    rw [natB_length l] at h
    refine h.mono ?_
    rintro e w2 ⟨rfl, hb2⟩
    rw [← HRR.out]
    have HB2 := Lib.hid (HB.out.trans (hb2.mono HB.out.size))
    clear hb2 h HEq
    go_wp2_with fail
    go_ret
    exact ⟨rfl, HB2.out⟩
  · have z1 : ¬ (0 : Int) ≤ (l.length : Int) - 4 := by omega
    have z2 : decide ((0 : Int) ≤ (l.length : Int) - 4) = false := decide_eq_false z1
    have hE : endsN l = false := by unfold endsN; rw [decide_eq_false h4, Bool.false_and]
    rw [hE]
    clear hE hC hl hm hc h4
    go_enter Try.func30, Try.ntmps30
    go_wp2
    go_ret
    exact ⟨rfl, Below.refl _ _⟩
end Go.Proofs.Ytagfplcafeblbaa.C
