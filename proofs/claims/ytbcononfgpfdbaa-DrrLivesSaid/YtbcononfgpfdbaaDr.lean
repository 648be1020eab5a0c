/-
  drr: the law DrrLives, walked.
-/
import Derived.Test.YtbcononfgpfdbaaDq
namespace Go.Proofs.Ytbcononfgpfdbaa.D
open Go.RowKit Go.Proofs.Ytbcononfgpfdbaa.L Go.Proofs.YtbcononfgpfdbaaW.PrintWords

/-- the two rings, and what they told of their members -/
structure LM (b x : Nat) (q : Int) (Z : List Mem) (n : Nat) (v1 v2 : Value) (w0 w : World) : Prop where
  rg : RG b q (rot n Z) w0.heap.size w
  xr : XR x q Z n w0.heap.size w
  fr : Below w0.heap.size w0 w
  m1 : (Kd.int .u64).R tU w w0.heap.size (fun _ => True) v1 ((rot n Z).map (·.1))
  m2 : (Kd.int .u64).R tU w w0.heap.size (fun _ => True) v2 ((rot n Z).map (·.1))
theorem LM.below {b x n : Nat} {q : Int} {Z : List Mem} {v1 v2 : Value} {w0 w w1 : World} (h : LM b x q Z n v1 v2 w0 w) (hb : Below w.heap.size w w1) : LM b x q Z n v1 v2 w0 w1 :=
  ⟨h.rg.below hb, h.xr.below hb, stay1 h.fr hb, Kd.R_below h.m1 hb, Kd.R_below h.m2 hb⟩
theorem ids_len {n : Nat} {Z : List Mem} : ((rot n Z).map (·.1)).length = Z.length := by rw [List.length_map, rot_length]

set_option maxHeartbeats 3200000 in
set_option maxRecDepth 100000 in
theorem lives_early (q : Int) (l : List OpD) (A : Option Addr) (c : Nat) (w : World) (h : q < 1 ∨ 65536 < q) :
    Calls Try.prog 4 #[.int .i64 q, .slice A l.length c] w fun e w' => e = .returned (.bool true) ∧ Below w.heap.size w w' := by
  have HN := Lib.hid (new_no q w h)
  rcases h with h | h
  · have t1 : decide (q < 1) = true := decide_eq_true h
    clear h
    go_enter Try.func4, Try.ntmps4
    go_wp2_with fail
    refine HN.out.mono ?_
    rintro e w0 ⟨rfl, rfl⟩
    go_wp2_with (go_at_call 16; refine (alive_any _).mono ?_; rintro e w1 ⟨rfl, hb1⟩; (have HB1 := Lib.hid hb1); clear hb1)
    go_ret
    exact ⟨rfl, HB1.out⟩
  · have t1 : decide (q < 1) = false := decide_eq_false (by omega)
    have t2 : decide (65536 < q) = true := decide_eq_true h
    clear h
    go_enter Try.func4, Try.ntmps4
    go_wp2_with fail
    refine HN.out.mono ?_
    rintro e w0 ⟨rfl, rfl⟩
    go_wp2_with (go_at_call 16; refine (alive_any _).mono ?_; rintro e w1 ⟨rfl, hb1⟩; (have HB1 := Lib.hid hb1); clear hb1)
    go_ret
    exact ⟨rfl, HB1.out⟩

set_option maxHeartbeats 12800000 in
set_option maxRecDepth 100000 in
theorem lives_main (q : Int) (l : List OpD) (A : Option Addr) (c : Nat) (w : World) (hq : 1 ≤ q ∧ q ≤ 65536) (hC : kOp.C w A l.length l) :
    Calls Try.prog 4 #[.int .i64 q, .slice A l.length c] w fun e w' => e = .returned (.bool true) ∧ Below w.heap.size w w' := by
  have HN := Lib.hid (new_yes q w hq.1 hq.2)
  have HQ := Lib.hid hq
  have HC := Lib.hid hC
  have hlm := (O_open hC).1
  have t1 : decide (q < 1) = false := decide_eq_false (by omega)
  have t2 : decide (65536 < q) = false := decide_eq_false (by omega)
  clear hC hq
  go_enter Try.func4, Try.ntmps4
  go_wp2_with fail
  refine HN.out.mono ?_
  rintro e w0 ⟨b, rfl, hg, hb⟩
  have HB := Lib.hid hb
  have HRG := Lib.hid hg
  clear hg hb HN
  go_wp2_with fail
  clear t1 t2
  have hbx : Below w0.heap.size w0 (w0.alloc (.cells #[.int .i64 q, .slice none 0 0, .slice none 0 0, .int .i64 0] tX)) := (Below.refl _ _).alloc (Nat.le_refl _) _
  have HXR := Lib.hid (show XR w0.heap.size q [] 0 w.heap.size (w0.alloc (.cells #[.int .i64 q, .slice none 0 0, .slice none 0 0, .int .i64 0] tX)) from
    ⟨_, _, heap_alloc_new w0 _, HB.out.size, Kd.R_nil _ _ _ _ _, Kd.R_nil _ _ _ _ _⟩)
  replace HRG := Lib.hid (HRG.out.below hbx)
  replace HB := Lib.hid (HB.out.trans (hbx.mono HB.out.size))
  obtain ⟨x, hx⟩ : ∃ x, w0.heap.size = x := ⟨_, rfl⟩
  rw [hx] at HXR ⊢
  clear hx hbx
  go_loopg [8] (l.length + 2) (fun g v8 w' => ∃ (i : Nat) (Z : List Mem) (n : Nat), v8 = .int .i64 i ∧ Hid (i ≤ l.length ∧ i ≤ 150 ∧ l.length < g + i) ∧ Hid (LI Z n (65536 * i)) ∧ Hid (RG b q (rot n Z) w.heap.size w') ∧ Hid (XR x q Z n w.heap.size w') ∧ Hid (Below w.heap.size w w'))
  case atStart => exact ⟨0, [], 0, rfl, Lib.hid ⟨by omega, by omega, by omega⟩, Lib.hid ⟨⟨.inr ⟨rfl, rfl⟩, by simp⟩, by simp, fun m hm => by cases hm⟩, HRG, HXR, HB⟩
  case round =>
    clear HRG HXR HB
    obtain ⟨i, Z, n, rfl, HJ, HLI, HRG, HXR, HB⟩ := hrel
    cases gk with
    | zero => have := HJ.out; omega
    | succ k =>
      by_cases hlt : i < l.length ∧ i < 150
      rotate_left
      · have hlt' : ¬ (i : Int) < (l.length : Int) ∨ ((i : Int) < (l.length : Int) ∧ ¬ (i : Int) < 150) := by omega
        clear hlt HJ
        rcases hlt' with hlt | ⟨hlt, hlt2⟩
        all_goals
          clear HLI HRG HXR
          go_wp2_with fail
          refine (nil_spend 1 _).mono ?_
          rintro e w1 ⟨rfl, h1⟩
          have HB1 := Lib.hid (show Below wr.heap.size wr w1 from h1 ▸ (Below.refl _ _).alloc (Nat.le_refl _) _)
          have k1 : w1.cell? ⟨wr.heap.size, 0, none⟩ = some (.int .i64 0) := by rw [h1, blk_cell (heap_alloc_new wr _)]; rfl
          have HZ := Lib.hid k1
          clear h1 k1
          obtain ⟨z, hz⟩ : ∃ z, wr.heap.size = z := ⟨_, rfl⟩
          have HZS := Lib.hid (show z < w1.heap.size from hz ▸ World.block_lt_of_cell? w1 _ HZ.out)
          rw [hz] at HZ ⊢
          clear hz
          go_wp2_with fail
          refine (zero_spend z 1 _ HZ.out).mono ?_
          rintro e _ ⟨rfl, rfl⟩
          go_wp2_with fail
          refine (nil_turn _).mono ?_
          rintro e _ ⟨rfl, rfl⟩
          go_wp2_with fail
          refine (alive_any _).mono ?_
          rintro e w2 ⟨rfl, hb2⟩
          have HB2 := Lib.hid (stay1 HB1.out hb2)
          have HZ2 := Lib.hid (pw_cell_below hb2 HZ.out)
          clear hb2 HB1 HZ HZS
          go_wp2_with fail
          refine (nil_add 1 _).mono ?_
          rintro e _ ⟨rfl, rfl⟩
          go_wp2_with fail
          refine (zero_remove z 1 _ HZ2.out).mono ?_
          rintro e _ ⟨rfl, rfl⟩
          go_wp2_with fail
          refine (nil_members _).mono ?_
          rintro e _ ⟨rfl, rfl⟩
          go_wp2_with fail
          refine (zero_members z _ HZ2.out).mono ?_
          rintro e _ ⟨rfl, rfl⟩
          go_wp2_with fail
          refine (nil_credit 1 _).mono ?_
          rintro e _ ⟨rfl, rfl⟩
          go_wp2_with fail
          go_ret
          exact ⟨rfl, stay1 HB.out HB2.out⟩
      obtain ⟨hlt, hlt2⟩ := hlt
      have HJ' := Lib.hid (show i < l.length ∧ i < 150 ∧ l.length < (k + 1) + i from ⟨hlt, hlt2, HJ.out.2.2⟩)
      clear HJ
      rcases (O_open HC.out).2 with e | ⟨bo, off, rfl, hbo, hcells⟩
      · subst e; simp at hlt
      obtain ⟨c0, c1, c2⟩ := hcells i hlt
      have c0 := (HB.out.cell (p := ⟨bo, off + i * 3, none⟩) hbo).trans c0
      have c1 := (HB.out.cell (p := ⟨bo, off + i * 3 + 1, none⟩) hbo).trans c1
      have c2 := (HB.out.cell (p := ⟨bo, off + i * 3 + 2, none⟩) hbo).trans c2
      clear hcells hbo
      generalize (l.getD i zOp).1 = kd at *
      generalize (l.getD i zOp).2.1 = id at *
      generalize (l.getD i zOp).2.2 = cost at *
      have hz : i < 150 := hlt2
      have HSM := Lib.hid (HLI.out.small_rot (by omega))
      have HSZ := Lib.hid (HLI.out.small (by omega))
      have HLN := Lib.hid (show (rot n Z).length ≤ 16 from by rw [rot_length]; exact HLI.out.len)
      clear hz
      have hk : kd = 0 ∨ kd = 1 ∨ kd = 2 ∨ (kd ≠ 0 ∧ kd ≠ 1 ∧ kd ≠ 2) := by omega
      obtain ⟨y, hy⟩ : ∃ y, y = wr.alloc (.cells #[.int .i64 kd, .int .u64 id, .int .i64 cost] tO) := ⟨_, rfl⟩
      have hby : Below wr.heap.size wr y := hy ▸ (Below.refl _ _).alloc (Nat.le_refl _) _
      have HO := Lib.hid (show OB wr.heap.size kd id cost y from hy ▸ heap_alloc_new wr _)
      have HRY := Lib.hid (HRG.out.below hby)
      have HXY := Lib.hid (HXR.out.below hby)
      have HBY := Lib.hid (HB.out.trans (hby.mono HB.out.size))
      have HGL := Lib.hid (show wr.heap.size < y.heap.size from hy ▸ by simp)
      obtain ⟨g, hgg⟩ : ∃ g, wr.heap.size = g := ⟨_, rfl⟩
      rw [hgg] at HO HGL
      have HY := Lib.hid hy
      have HGG := Lib.hid hgg
      clear hby hy hgg HRG HXR HB
      rcases hk with hk | hk | hk | hk
      · have tk0 : (kd == 0) = true := by simp; omega
        clear hk
        go_wp2_with fail
        rw [← HY.out, HGG.out]
        clear HY HGG c0 c1 c2 tk0
        have q1 := HO.out.cells.2.1
        have q2 := HO.out.cells.2.2
        clear q1 q2
        obtain ⟨⟨E, Z2, n2⟩, hR⟩ : ∃ R, addX q Z n id = R := ⟨_, rfl⟩
        have hrel := add_rel (q := q) HLI.out.cir id
        have HLI2 := Lib.hid (show LI Z2 n2 (65536 * ((i + 1 : Nat) : Int)) from by
          have := HLI.out.add HQ.out (by omega) id
          rw [hR] at this
          rw [show (65536 : Int) * ((i + 1 : Nat) : Int) = 65536 * (i : Int) + 65536 from by omega]
          exact this)
        rw [hR] at hrel
        have HA := add_any b w.heap.size q (rot n Z) id y.drew (HRY.out.below (stay0 y)) HQ.out HLN.out
        rw [hrel.1, hrel.2.1] at HA
        have HX := fun (w2 : World) (hf : FR w.heap.size y.drew w2) => xadd_any x w.heap.size n q Z id w2 ((HXY.out.below (stay0 y)).ring hf) HLI.out.cir.at_ HLI.out.len
        rw [hR] at HX
        dsimp only at HA HX
        have HA := Lib.hid HA
        have HX := Lib.hid HX
        clear hR hrel
        have g1 := fun (m : Qs.GW y.drew y.heap.size (rwr y.drew)) => ((show OB g kd id cost y.drew from HO.out).gw HGL.out m).cells.2.1
        refine Qs.wp_region_segs (rwr y.drew) [([0, 1, 2, 4, 5, 6], some 3), ([], some 7), ([8], none)] (by kernel_rfl) (by kernel_rfl) (by kernel_rfl) (by kernel_rfl) ?_
        dsimp only [Qs.wpSegs, Q.picks, Q.pick]
        repeat (go_big_quiet_step (fail))
        refine wpQuiet_nil ?_
        clear g1
        go_wp2_with (go_at_call 17; refine HA.out.mono ?_; rintro e w2 ⟨rfl, hg2, hf2⟩; (have HG2 := Lib.hid hg2); (have HF2 := Lib.hid hf2); clear hg2 hf2)
        refine Qs.ev_app (gr_ring (Qs.Gr.refl _ _ _) HF2.out) (Nat.le_refl _) (Qs.NewRow.self _ _) ?_
        refine wpQuiet_nil ?_
        have HX2 := Lib.hid (HX.out _ HF2.out)
        clear HX HA
        go_wp2_with (go_at_call 20; refine HX2.out.mono ?_; rintro e wz ⟨rfl, hg3, hf3⟩; (have HXZ := Lib.hid hg3); (have HF3 := Lib.hid hf3); clear hg3 hf3)
        refine Qs.ev_app (gr_ref (gr_ring (Qs.Gr.refl _ _ _) HF2.out) HF3.out) (Nat.le_refl _) (Qs.NewRow.self _ _) ?_
        repeat (go_big_quiet_step (fail))
        refine wpQuiet_nil ?_
        refine NoPanic.normal ?_
        have HRZ := Lib.hid (HG2.out.ref HF3.out)
        have HOZ := Lib.hid (((show OB g kd id cost y.drew from HO.out).ring HF2.out).ref HF3.out)
        have HBZ := Lib.hid ((HBY.out.drew.trans HF2.out.below).trans HF3.out.below)
        clear HX2 HG2 HF2 HF3 HO HRY HXY HBY HLI HSM HSZ HLN HGL
        go_wp2_with fail
        have hi150 : i < 150 := HJ'.out.2.1
        have HSM2 := Lib.hid (HLI2.out.small_rot (by omega))
        have HL16 := Lib.hid HLI2.out.len
        have hidl : ((rot n2 Z2).map (·.1)).length = Z2.length := ids_len
        have HIDL := Lib.hid hidl
        have HCR := Lib.hid HLI2.out.cir
        have HTU := turn_any b w.heap.size q (rot n2 Z2)
        rw [rot_length] at HTU
        have HTU := Lib.hid HTU
        have hN16 : (Z2.length : Int) ≤ 16 := by have := HLI2.out.len; omega
        clear hidl hi150
        refine (members_any b w.heap.size q (rot n2 Z2) wz HRZ.out HQ.out.1 (by rw [rot_length]; have := HL16.out; omega)).mono ?_
        rintro e w4 ⟨v14, rfl, hr4, hb4⟩
        obtain ⟨A4, c4, hv4, hc4, _⟩ := Kd.R_reads hr4
        rw [HIDL.out] at hv4 hc4
        subst hv4
        have HM1 := Lib.hid (Kd.R_lower hr4 HBZ.out.size)
        have HR4 := Lib.hid (HRZ.out.below hb4)
        have HX4 := Lib.hid (HXZ.out.below hb4)
        have HO4 := Lib.hid (HOZ.out.below hb4)
        have HB4 := Lib.hid (stay1 HBZ.out hb4)
        clear hr4 hb4 HRZ HXZ HOZ HBZ hc4
        go_wp2_with fail
        refine (xmembers_any x w.heap.size n2 q Z2 w4 HX4.out (by have := HL16.out; omega) HCR.out.at_).mono ?_
        rintro e w5 ⟨v15, rfl, hr5, hb5⟩
        obtain ⟨A5, c5, hv5, hc5, _⟩ := Kd.R_reads hr5
        rw [HIDL.out] at hv5 hc5
        subst hv5
        have HLM := Lib.hid (show LM b x q Z2 n2 (.slice A4 Z2.length c4) (.slice A5 Z2.length c5) w w5 from ⟨HR4.out.below hb5, HX4.out.below hb5, stay1 HB4.out hb5, Kd.R_below HM1.out hb5, Kd.R_lower hr5 HB4.out.size⟩)
        have HO5 := Lib.hid (HO4.out.below hb5)
        clear hr5 hb5 HR4 HX4 HO4 HB4 HM1 hc5
        go_wp2_with fail
        have HT5 := Lib.hid (HTU.out w5 HLM.out.rg HQ.out.1)
        rcases Nat.eq_zero_or_pos Z2.length with hN | hN
        · -- none
          have hZ : Z2 = [] := List.eq_nil_of_length_eq_zero hN
          subst hZ
          rw [if_pos (show ([] : List Mem).length = 0 from rfl), show decide (0 < ([] : List Mem).length) = false from rfl] at HT5
          refine HT5.out.mono ?_
          rintro e _ ⟨rfl, rfl⟩
          have HCA := fun (W : World) (hb : Below w5.heap.size w5 W) => credit_any b w.heap.size q (rot n2 []) id W (HLM.out.rg.below hb) HQ.out.1
          have HCB := fun (W : World) (hb : Below w5.heap.size w5 W) => xcredit_any x w.heap.size n2 q [] id W (HLM.out.xr.below hb) (by simp)
          rw [HCR.out.cred id] at HCA
          obtain ⟨cr, hcr⟩ : ∃ cr, credP [] id = cr := ⟨_, rfl⟩
          rw [hcr] at HCA HCB
          have HCA := Lib.hid HCA
          have HCB := Lib.hid HCB
          have g1 : ∀ m : Q.GW w5.drew w5.heap.size none, m.w.cell? ⟨g, 1, none⟩ = some (.int .u64 id) := fun m => pw_cell_below (stay1 (stay0 w5) m.below) HO5.out.cells.2.1
          clear HT5 HTU hcr hN
          go_wp2_with fail
          refine Q.wp_region_segs none [([0, 1, 2, 3, 4, 5, 6, 7, 8, 9, 10, 11, 12, 13, 14, 15, 16, 17, 18, 19, 20, 21, 22, 23, 24, 25, 27, 28, 29], some 26), ([], some 30), ([31, 32], none)] (by kernel_rfl) (by kernel_rfl) (by kernel_rfl) (by kernel_rfl) ?_
          dsimp only [Q.wpSegs, Q.picks, Q.pick]
          repeat (go_big_quiet_step (fail))
          refine wpQuiet_nil ?_
          clear g1
          go_wp2_with (go_at_call 26; refine (HCA.out _ (stay0 w5)).mono ?_; rintro e w6 ⟨rfl, hb6⟩; (have HB6 := Lib.hid (stay1 (stay0 w5) hb6)); (have HB6b := Lib.hid hb6); clear hb6)
          refine Q.ev_done HB6b.out (Nat.le_refl _) ?_
          refine wpQuiet_nil ?_
          go_wp2_with (go_at_call 27; refine (HCB.out _ HB6.out).mono ?_; rintro e _ ⟨rfl, rfl⟩)
          refine Q.ev_done (Below.refl _ _) (Nat.le_refl _) ?_
          repeat (go_big_quiet_step (fail))
          refine wpQuiet_nil ?_
          refine NoPanic.normal ?_
          have HLM6 := Lib.hid (HLM.out.below HB6.out)
          clear HCA HCB HLM HB6 HB6b HO5
          go_wp2_with fail
          refine wp_loop_rounds 1 ?_
          rw [rounds_succ]
          go_wp2_with fail
          go_roundg k
          case measure => have := HJ'.out; omega
          case rel => exact ⟨i + 1, [], n2, by go_num, Lib.hid (by have := HJ'.out; omega), HLI2, Lib.hid HLM6.out.rg, Lib.hid HLM6.out.xr, Lib.hid HLM6.out.fr⟩
        · -- some
          rw [if_neg (show ¬ Z2.length = 0 from by omega), show decide (0 < Z2.length) = true from decide_eq_true hN] at HT5
          have hh : headId (rot n2 Z2) = ((rot n2 Z2).map (·.1)).getD 0 0 := (map_getD1 (by rw [rot_length]; exact hN)).symm
          rw [hh] at HT5
          obtain ⟨ids, hids⟩ : ∃ ids, (rot n2 Z2).map (·.1) = ids := ⟨_, rfl⟩
          rw [hids] at HT5 HIDL
          obtain ⟨g4, hg4, _, _, hc4⟩ := row_at HLM.out.m1 (by rw [hids, HIDL.out]; exact hN)
          obtain ⟨g5, hg5, _, _, hc5⟩ := row_at HLM.out.m2 (by rw [hids, HIDL.out]; exact hN)
          rw [hids] at hc4 hc5
          subst hg4 hg5
          have e5 := hc5 0 (by rw [HIDL.out]; exact hN)
          have HIDS := Lib.hid hids
          obtain ⟨hd, hhd⟩ : ∃ hd, ids.getD 0 0 = hd := ⟨_, rfl⟩
          rw [hhd] at HT5 e5
          clear hc4 hc5 hids hh hhd HTU
          have t6 : decide ((0 : Int) < (Z2.length : Int)) = true := decide_eq_true (by omega)
          have z6 : (0 : Int) < (Z2.length : Int) := by omega
          refine HT5.out.mono ?_
          rintro e _ ⟨rfl, rfl⟩
          have HCA := fun (idv : Int) (W : World) (hr : RG b q (rot n2 Z2) w.heap.size W) => credit_any b w.heap.size q (rot n2 Z2) idv W hr HQ.out.1
          have HCB := fun (idv : Int) (W : World) (hr : XR x q Z2 n2 w.heap.size W) => xcredit_any x w.heap.size n2 q Z2 idv W hr (by have := HL16.out; omega)
          have HCA := Lib.hid HCA
          have HCB := Lib.hid HCB
          have HCA1 := HCA.out id
          have HCB1 := HCB.out id
          rw [HCR.out.cred id] at HCA1
          obtain ⟨cr, hcr⟩ : ∃ cr, credP Z2 id = cr := ⟨_, rfl⟩
          rw [hcr] at HCA1 HCB1
          have HCA1 := Lib.hid HCA1
          have HCB1 := Lib.hid HCB1
          have g1 : ∀ m : Q.GW w5.drew w5.heap.size none, m.w.cell? ⟨g, 1, none⟩ = some (.int .u64 id) := fun m => pw_cell_below (stay1 (stay0 w5) m.below) HO5.out.cells.2.1
          have g2 : ∀ m : Q.GW w5.drew w5.heap.size none, m.w.cell? ⟨g5, 0, none⟩ = some (.int .u64 hd) := fun m => pw_cell_below (stay1 (stay0 w5) m.below) e5
          clear HT5 hcr e5
          go_wp2_with fail
          refine Q.wp_region_segs none [([0, 1, 2, 3, 4, 5, 6, 7, 8, 9, 10, 11, 12, 13, 14, 15, 16, 17, 18, 19, 20, 21, 22, 23, 24, 25, 27, 28, 29], some 26), ([], some 30), ([31, 32], none)] (by kernel_rfl) (by kernel_rfl) (by kernel_rfl) (by kernel_rfl) ?_
          dsimp only [Q.wpSegs, Q.picks, Q.pick]
          repeat (go_big_quiet_step (fail))
          refine wpQuiet_nil ?_
          clear g1 g2 t6 z6
          go_wp2_with (go_at_call 26; refine (HCA1.out _ (HLM.out.rg.below (stay0 w5))).mono ?_; rintro e w6 ⟨rfl, hb6⟩; (have HB6 := Lib.hid (stay1 (stay0 w5) hb6)); (have HB6b := Lib.hid hb6); clear hb6)
          refine Q.ev_done HB6b.out (Nat.le_refl _) ?_
          refine wpQuiet_nil ?_
          go_wp2_with (go_at_call 27; refine (HCB1.out _ (HLM.out.xr.below HB6.out)).mono ?_; rintro e _ ⟨rfl, rfl⟩)
          refine Q.ev_done (Below.refl _ _) (Nat.le_refl _) ?_
          repeat (go_big_quiet_step (fail))
          refine wpQuiet_nil ?_
          refine NoPanic.normal ?_
          replace HLM := Lib.hid (HLM.out.below HB6.out)
          clear HCA1 HCB1 HB6 HB6b HO5
          go_wp2_with fail
          go_loopg [18] (Z2.length + 1) (fun g v18 w' => ∃ (j : Nat), v18 = .int .i64 j ∧ Hid (j ≤ Z2.length ∧ Z2.length < g + j) ∧ Hid (LM b x q Z2 n2 (.slice (some ⟨g4, 0, none⟩) Z2.length c4) (.slice (some ⟨g5, 0, none⟩) Z2.length c5) w w'))
          case atStart => exact ⟨0, rfl, Lib.hid ⟨by omega, by omega⟩, HLM⟩
          case round =>
            clear HLM
            obtain ⟨j, rfl, HJ2, HLM⟩ := hrel
            cases gk with
            | zero => have := HJ2.out; omega
            | succ k2 =>
              by_cases hjl : j < Z2.length
              · have HJ2' := Lib.hid (show j < Z2.length ∧ Z2.length < (k2 + 1) + j from ⟨hjl, HJ2.out.2⟩)
                have f4 := row_cell HLM.out.m1 (j := j) (by rw [HIDS.out, HIDL.out]; exact hjl)
                have f5 := row_cell HLM.out.m2 (j := j) (by rw [HIDS.out, HIDL.out]; exact hjl)
                rw [HIDS.out, Nat.zero_add] at f4 f5
                obtain ⟨yv, hyv⟩ : ∃ yv, ids.getD j 0 = yv := ⟨_, rfl⟩
                rw [hyv] at f4 f5
                have HCA1 := HCA.out yv
                have HCB1 := HCB.out yv
                rw [HCR.out.cred yv] at HCA1
                obtain ⟨cr, hcr⟩ : ∃ cr, credP Z2 yv = cr := ⟨_, rfl⟩
                rw [hcr] at HCA1 HCB1
                have HCA1 := Lib.hid HCA1
                have HCB1 := Lib.hid HCB1
                have z1 : (0 : Int) ≤ (j : Int) := by omega
                have z2 : (j : Int) < (Z2.length : Int) := by omega
                have g1 : ∀ m : Q.GW wr.drew wr.heap.size none, m.w.cell? ⟨g4, j, none⟩ = some (.int .u64 yv) := fun m => pw_cell_below (stay1 (stay0 wr) m.below) f4
                have g2 : ∀ m : Q.GW wr.drew wr.heap.size none, m.w.cell? ⟨g5, j, none⟩ = some (.int .u64 yv) := fun m => pw_cell_below (stay1 (stay0 wr) m.below) f5
                clear hyv hcr f4 f5 HJ2
                go_wp2_with fail
                refine Q.wp_region_segs none [([0, 1, 2, 3, 4, 5, 6, 7, 8, 9, 10, 11, 12, 13, 14, 16, 17, 18, 19, 20], some 15), ([], some 21), ([22, 23], none)] (by kernel_rfl) (by kernel_rfl) (by kernel_rfl) (by kernel_rfl) ?_
                dsimp only [Q.wpSegs, Q.picks, Q.pick]
                repeat (go_big_quiet_step (fail))
                refine wpQuiet_nil ?_
                clear g1 g2 z1 z2
                go_wp2_with (go_at_call 26; refine (HCA1.out _ (HLM.out.rg.below (stay0 wr))).mono ?_; rintro e w6 ⟨rfl, hb6⟩; (have HB6 := Lib.hid (stay1 (stay0 wr) hb6)); (have HB6b := Lib.hid hb6); clear hb6)
                refine Q.ev_done HB6b.out (Nat.le_refl _) ?_
                refine wpQuiet_nil ?_
                go_wp2_with (go_at_call 27; refine (HCB1.out _ (HLM.out.xr.below HB6.out)).mono ?_; rintro e _ ⟨rfl, rfl⟩)
                refine Q.ev_done (Below.refl _ _) (Nat.le_refl _) ?_
                repeat (go_big_quiet_step (fail))
                refine wpQuiet_nil ?_
                refine NoPanic.normal ?_
                replace HLM := Lib.hid (HLM.out.below HB6.out)
                clear HCA1 HCB1 HB6 HB6b
                go_wp2_with fail
                go_roundg k2
                case measure => have := HJ2'.out; omega
                case rel => exact ⟨j + 1, by go_num, Lib.hid (by have := HJ2'.out; omega), HLM⟩
              · clear HJ2
                go_wp2_with fail
                go_roundg k
                case measure => have := HJ'.out; omega
                case rel => exact ⟨i + 1, Z2, n2, by go_num, Lib.hid (by have := HJ'.out; omega), HLI2, Lib.hid HLM.out.rg, Lib.hid HLM.out.xr, Lib.hid HLM.out.fr⟩
      · have tk0 : (kd == 0) = false := by simp; omega
        have tk1 : (kd == 1) = true := by simp; omega
        clear hk
        go_wp2_with fail
        rw [← HY.out, HGG.out]
        clear HY HGG c0 c1 c2 tk0 tk1
        have q1 := HO.out.cells.2.1
        have q2 := HO.out.cells.2.2
        clear q1 q2
        obtain ⟨⟨E, Z2, n2⟩, hR⟩ : ∃ R, remX q Z n id = R := ⟨_, rfl⟩
        have hrel := rem_rel (q := q) HLI.out.cir id
        have HLI2 := Lib.hid (show LI Z2 n2 (65536 * ((i + 1 : Nat) : Int)) from by
          have := HLI.out.rem HQ.out id
          rw [hR] at this
          rw [show (65536 : Int) * ((i + 1 : Nat) : Int) = 65536 * (i : Int) + 65536 from by omega]
          exact this)
        rw [hR] at hrel
        have HA := remove_any b w.heap.size q (rot n Z) id y.drew (HRY.out.below (stay0 y)) HQ.out HLN.out HSM.out
        rw [hrel.1, hrel.2.1] at HA
        have HX := fun (w2 : World) (hf : FR w.heap.size y.drew w2) => xrem_any x w.heap.size n q Z id w2 ((HXY.out.below (stay0 y)).ring hf) HLI.out.cir.at_ HLI.out.len HQ.out HSZ.out
        rw [hR] at HX
        dsimp only at HA HX
        have HA := Lib.hid HA
        have HX := Lib.hid HX
        clear hR hrel
        have g1 := fun (m : Qs.GW y.drew y.heap.size (rwr y.drew)) => ((show OB g kd id cost y.drew from HO.out).gw HGL.out m).cells.2.1
        refine Qs.wp_region_segs (rwr y.drew) [([0, 1, 2, 4, 5, 6], some 3), ([], some 7), ([8], none)] (by kernel_rfl) (by kernel_rfl) (by kernel_rfl) (by kernel_rfl) ?_
        dsimp only [Qs.wpSegs, Q.picks, Q.pick]
        repeat (go_big_quiet_step (fail))
        refine wpQuiet_nil ?_
        clear g1
        go_wp2_with (go_at_call 21; refine HA.out.mono ?_; rintro e w2 ⟨rfl, hg2, hf2⟩; (have HG2 := Lib.hid hg2); (have HF2 := Lib.hid hf2); clear hg2 hf2)
        refine Qs.ev_app (gr_ring (Qs.Gr.refl _ _ _) HF2.out) (Nat.le_refl _) (Qs.NewRow.self _ _) ?_
        refine wpQuiet_nil ?_
        have HX2 := Lib.hid (HX.out _ HF2.out)
        clear HX HA
        go_wp2_with (go_at_call 22; refine HX2.out.mono ?_; rintro e wz ⟨rfl, hg3, hf3⟩; (have HXZ := Lib.hid hg3); (have HF3 := Lib.hid hf3); clear hg3 hf3)
        refine Qs.ev_app (gr_ref (gr_ring (Qs.Gr.refl _ _ _) HF2.out) HF3.out) (Nat.le_refl _) (Qs.NewRow.self _ _) ?_
        repeat (go_big_quiet_step (fail))
        refine wpQuiet_nil ?_
        refine NoPanic.normal ?_
        have HRZ := Lib.hid (HG2.out.ref HF3.out)
        have HOZ := Lib.hid (((show OB g kd id cost y.drew from HO.out).ring HF2.out).ref HF3.out)
        have HBZ := Lib.hid ((HBY.out.drew.trans HF2.out.below).trans HF3.out.below)
        clear HX2 HG2 HF2 HF3 HO HRY HXY HBY HLI HSM HSZ HLN HGL
        go_wp2_with fail
        have hi150 : i < 150 := HJ'.out.2.1
        have HSM2 := Lib.hid (HLI2.out.small_rot (by omega))
        have HL16 := Lib.hid HLI2.out.len
        have hidl : ((rot n2 Z2).map (·.1)).length = Z2.length := ids_len
        have HIDL := Lib.hid hidl
        have HCR := Lib.hid HLI2.out.cir
        have HTU := turn_any b w.heap.size q (rot n2 Z2)
        rw [rot_length] at HTU
        have HTU := Lib.hid HTU
        have hN16 : (Z2.length : Int) ≤ 16 := by have := HLI2.out.len; omega
        clear hidl hi150
        refine (members_any b w.heap.size q (rot n2 Z2) wz HRZ.out HQ.out.1 (by rw [rot_length]; have := HL16.out; omega)).mono ?_
        rintro e w4 ⟨v14, rfl, hr4, hb4⟩
        obtain ⟨A4, c4, hv4, hc4, _⟩ := Kd.R_reads hr4
        rw [HIDL.out] at hv4 hc4
        subst hv4
        have HM1 := Lib.hid (Kd.R_lower hr4 HBZ.out.size)
        have HR4 := Lib.hid (HRZ.out.below hb4)
        have HX4 := Lib.hid (HXZ.out.below hb4)
        have HO4 := Lib.hid (HOZ.out.below hb4)
        have HB4 := Lib.hid (stay1 HBZ.out hb4)
        clear hr4 hb4 HRZ HXZ HOZ HBZ hc4
        go_wp2_with fail
        refine (xmembers_any x w.heap.size n2 q Z2 w4 HX4.out (by have := HL16.out; omega) HCR.out.at_).mono ?_
        rintro e w5 ⟨v15, rfl, hr5, hb5⟩
        obtain ⟨A5, c5, hv5, hc5, _⟩ := Kd.R_reads hr5
        rw [HIDL.out] at hv5 hc5
        subst hv5
        have HLM := Lib.hid (show LM b x q Z2 n2 (.slice A4 Z2.length c4) (.slice A5 Z2.length c5) w w5 from ⟨HR4.out.below hb5, HX4.out.below hb5, stay1 HB4.out hb5, Kd.R_below HM1.out hb5, Kd.R_lower hr5 HB4.out.size⟩)
        have HO5 := Lib.hid (HO4.out.below hb5)
        clear hr5 hb5 HR4 HX4 HO4 HB4 HM1 hc5
        go_wp2_with fail
        have HT5 := Lib.hid (HTU.out w5 HLM.out.rg HQ.out.1)
        rcases Nat.eq_zero_or_pos Z2.length with hN | hN
        · -- none
          have hZ : Z2 = [] := List.eq_nil_of_length_eq_zero hN
          subst hZ
          rw [if_pos (show ([] : List Mem).length = 0 from rfl), show decide (0 < ([] : List Mem).length) = false from rfl] at HT5
          refine HT5.out.mono ?_
          rintro e _ ⟨rfl, rfl⟩
          have HCA := fun (W : World) (hb : Below w5.heap.size w5 W) => credit_any b w.heap.size q (rot n2 []) id W (HLM.out.rg.below hb) HQ.out.1
          have HCB := fun (W : World) (hb : Below w5.heap.size w5 W) => xcredit_any x w.heap.size n2 q [] id W (HLM.out.xr.below hb) (by simp)
          rw [HCR.out.cred id] at HCA
          obtain ⟨cr, hcr⟩ : ∃ cr, credP [] id = cr := ⟨_, rfl⟩
          rw [hcr] at HCA HCB
          have HCA := Lib.hid HCA
          have HCB := Lib.hid HCB
          have g1 : ∀ m : Q.GW w5.drew w5.heap.size none, m.w.cell? ⟨g, 1, none⟩ = some (.int .u64 id) := fun m => pw_cell_below (stay1 (stay0 w5) m.below) HO5.out.cells.2.1
          clear HT5 HTU hcr hN
          go_wp2_with fail
          refine Q.wp_region_segs none [([0, 1, 2, 3, 4, 5, 6, 7, 8, 9, 10, 11, 12, 13, 14, 15, 16, 17, 18, 19, 20, 21, 22, 23, 24, 25, 27, 28, 29], some 26), ([], some 30), ([31, 32], none)] (by kernel_rfl) (by kernel_rfl) (by kernel_rfl) (by kernel_rfl) ?_
          dsimp only [Q.wpSegs, Q.picks, Q.pick]
          repeat (go_big_quiet_step (fail))
          refine wpQuiet_nil ?_
          clear g1
          go_wp2_with (go_at_call 26; refine (HCA.out _ (stay0 w5)).mono ?_; rintro e w6 ⟨rfl, hb6⟩; (have HB6 := Lib.hid (stay1 (stay0 w5) hb6)); (have HB6b := Lib.hid hb6); clear hb6)
          refine Q.ev_done HB6b.out (Nat.le_refl _) ?_
          refine wpQuiet_nil ?_
          go_wp2_with (go_at_call 27; refine (HCB.out _ HB6.out).mono ?_; rintro e _ ⟨rfl, rfl⟩)
          refine Q.ev_done (Below.refl _ _) (Nat.le_refl _) ?_
          repeat (go_big_quiet_step (fail))
          refine wpQuiet_nil ?_
          refine NoPanic.normal ?_
          have HLM6 := Lib.hid (HLM.out.below HB6.out)
          clear HCA HCB HLM HB6 HB6b HO5
          go_wp2_with fail
          refine wp_loop_rounds 1 ?_
          rw [rounds_succ]
          go_wp2_with fail
          go_roundg k
          case measure => have := HJ'.out; omega
          case rel => exact ⟨i + 1, [], n2, by go_num, Lib.hid (by have := HJ'.out; omega), HLI2, Lib.hid HLM6.out.rg, Lib.hid HLM6.out.xr, Lib.hid HLM6.out.fr⟩
        · -- some
          rw [if_neg (show ¬ Z2.length = 0 from by omega), show decide (0 < Z2.length) = true from decide_eq_true hN] at HT5
          have hh : headId (rot n2 Z2) = ((rot n2 Z2).map (·.1)).getD 0 0 := (map_getD1 (by rw [rot_length]; exact hN)).symm
          rw [hh] at HT5
          obtain ⟨ids, hids⟩ : ∃ ids, (rot n2 Z2).map (·.1) = ids := ⟨_, rfl⟩
          rw [hids] at HT5 HIDL
          obtain ⟨g4, hg4, _, _, hc4⟩ := row_at HLM.out.m1 (by rw [hids, HIDL.out]; exact hN)
          obtain ⟨g5, hg5, _, _, hc5⟩ := row_at HLM.out.m2 (by rw [hids, HIDL.out]; exact hN)
          rw [hids] at hc4 hc5
          subst hg4 hg5
          have e5 := hc5 0 (by rw [HIDL.out]; exact hN)
          have HIDS := Lib.hid hids
          obtain ⟨hd, hhd⟩ : ∃ hd, ids.getD 0 0 = hd := ⟨_, rfl⟩
          rw [hhd] at HT5 e5
          clear hc4 hc5 hids hh hhd HTU
          have t6 : decide ((0 : Int) < (Z2.length : Int)) = true := decide_eq_true (by omega)
          have z6 : (0 : Int) < (Z2.length : Int) := by omega
          refine HT5.out.mono ?_
          rintro e _ ⟨rfl, rfl⟩
          have HCA := fun (idv : Int) (W : World) (hr : RG b q (rot n2 Z2) w.heap.size W) => credit_any b w.heap.size q (rot n2 Z2) idv W hr HQ.out.1
          have HCB := fun (idv : Int) (W : World) (hr : XR x q Z2 n2 w.heap.size W) => xcredit_any x w.heap.size n2 q Z2 idv W hr (by have := HL16.out; omega)
          have HCA := Lib.hid HCA
          have HCB := Lib.hid HCB
          have HCA1 := HCA.out id
          have HCB1 := HCB.out id
          rw [HCR.out.cred id] at HCA1
          obtain ⟨cr, hcr⟩ : ∃ cr, credP Z2 id = cr := ⟨_, rfl⟩
          rw [hcr] at HCA1 HCB1
          have HCA1 := Lib.hid HCA1
          have HCB1 := Lib.hid HCB1
          have g1 : ∀ m : Q.GW w5.drew w5.heap.size none, m.w.cell? ⟨g, 1, none⟩ = some (.int .u64 id) := fun m => pw_cell_below (stay1 (stay0 w5) m.below) HO5.out.cells.2.1
          have g2 : ∀ m : Q.GW w5.drew w5.heap.size none, m.w.cell? ⟨g5, 0, none⟩ = some (.int .u64 hd) := fun m => pw_cell_below (stay1 (stay0 w5) m.below) e5
          clear HT5 hcr e5
          go_wp2_with fail
          refine Q.wp_region_segs none [([0, 1, 2, 3, 4, 5, 6, 7, 8, 9, 10, 11, 12, 13, 14, 15, 16, 17, 18, 19, 20, 21, 22, 23, 24, 25, 27, 28, 29], some 26), ([], some 30), ([31, 32], none)] (by kernel_rfl) (by kernel_rfl) (by kernel_rfl) (by kernel_rfl) ?_
          dsimp only [Q.wpSegs, Q.picks, Q.pick]
          repeat (go_big_quiet_step (fail))
          refine wpQuiet_nil ?_
          clear g1 g2 t6 z6
          go_wp2_with (go_at_call 26; refine (HCA1.out _ (HLM.out.rg.below (stay0 w5))).mono ?_; rintro e w6 ⟨rfl, hb6⟩; (have HB6 := Lib.hid (stay1 (stay0 w5) hb6)); (have HB6b := Lib.hid hb6); clear hb6)
          refine Q.ev_done HB6b.out (Nat.le_refl _) ?_
          refine wpQuiet_nil ?_
          go_wp2_with (go_at_call 27; refine (HCB1.out _ (HLM.out.xr.below HB6.out)).mono ?_; rintro e _ ⟨rfl, rfl⟩)
          refine Q.ev_done (Below.refl _ _) (Nat.le_refl _) ?_
          repeat (go_big_quiet_step (fail))
          refine wpQuiet_nil ?_
          refine NoPanic.normal ?_
          replace HLM := Lib.hid (HLM.out.below HB6.out)
          clear HCA1 HCB1 HB6 HB6b HO5
          go_wp2_with fail
          go_loopg [18] (Z2.length + 1) (fun g v18 w' => ∃ (j : Nat), v18 = .int .i64 j ∧ Hid (j ≤ Z2.length ∧ Z2.length < g + j) ∧ Hid (LM b x q Z2 n2 (.slice (some ⟨g4, 0, none⟩) Z2.length c4) (.slice (some ⟨g5, 0, none⟩) Z2.length c5) w w'))
          case atStart => exact ⟨0, rfl, Lib.hid ⟨by omega, by omega⟩, HLM⟩
          case round =>
            clear HLM
            obtain ⟨j, rfl, HJ2, HLM⟩ := hrel
            cases gk with
            | zero => have := HJ2.out; omega
            | succ k2 =>
              by_cases hjl : j < Z2.length
              · have HJ2' := Lib.hid (show j < Z2.length ∧ Z2.length < (k2 + 1) + j from ⟨hjl, HJ2.out.2⟩)
                have f4 := row_cell HLM.out.m1 (j := j) (by rw [HIDS.out, HIDL.out]; exact hjl)
                have f5 := row_cell HLM.out.m2 (j := j) (by rw [HIDS.out, HIDL.out]; exact hjl)
                rw [HIDS.out, Nat.zero_add] at f4 f5
                obtain ⟨yv, hyv⟩ : ∃ yv, ids.getD j 0 = yv := ⟨_, rfl⟩
                rw [hyv] at f4 f5
                have HCA1 := HCA.out yv
                have HCB1 := HCB.out yv
                rw [HCR.out.cred yv] at HCA1
                obtain ⟨cr, hcr⟩ : ∃ cr, credP Z2 yv = cr := ⟨_, rfl⟩
                rw [hcr] at HCA1 HCB1
                have HCA1 := Lib.hid HCA1
                have HCB1 := Lib.hid HCB1
                have z1 : (0 : Int) ≤ (j : Int) := by omega
                have z2 : (j : Int) < (Z2.length : Int) := by omega
                have g1 : ∀ m : Q.GW wr.drew wr.heap.size none, m.w.cell? ⟨g4, j, none⟩ = some (.int .u64 yv) := fun m => pw_cell_below (stay1 (stay0 wr) m.below) f4
                have g2 : ∀ m : Q.GW wr.drew wr.heap.size none, m.w.cell? ⟨g5, j, none⟩ = some (.int .u64 yv) := fun m => pw_cell_below (stay1 (stay0 wr) m.below) f5
                clear hyv hcr f4 f5 HJ2
                go_wp2_with fail
                refine Q.wp_region_segs none [([0, 1, 2, 3, 4, 5, 6, 7, 8, 9, 10, 11, 12, 13, 14, 16, 17, 18, 19, 20], some 15), ([], some 21), ([22, 23], none)] (by kernel_rfl) (by kernel_rfl) (by kernel_rfl) (by kernel_rfl) ?_
                dsimp only [Q.wpSegs, Q.picks, Q.pick]
                repeat (go_big_quiet_step (fail))
                refine wpQuiet_nil ?_
                clear g1 g2 z1 z2
                go_wp2_with (go_at_call 26; refine (HCA1.out _ (HLM.out.rg.below (stay0 wr))).mono ?_; rintro e w6 ⟨rfl, hb6⟩; (have HB6 := Lib.hid (stay1 (stay0 wr) hb6)); (have HB6b := Lib.hid hb6); clear hb6)
                refine Q.ev_done HB6b.out (Nat.le_refl _) ?_
                refine wpQuiet_nil ?_
                go_wp2_with (go_at_call 27; refine (HCB1.out _ (HLM.out.xr.below HB6.out)).mono ?_; rintro e _ ⟨rfl, rfl⟩)
                refine Q.ev_done (Below.refl _ _) (Nat.le_refl _) ?_
                repeat (go_big_quiet_step (fail))
                refine wpQuiet_nil ?_
                refine NoPanic.normal ?_
                replace HLM := Lib.hid (HLM.out.below HB6.out)
                clear HCA1 HCB1 HB6 HB6b
                go_wp2_with fail
                go_roundg k2
                case measure => have := HJ2'.out; omega
                case rel => exact ⟨j + 1, by go_num, Lib.hid (by have := HJ2'.out; omega), HLM⟩
              · clear HJ2
                go_wp2_with fail
                go_roundg k
                case measure => have := HJ'.out; omega
                case rel => exact ⟨i + 1, Z2, n2, by go_num, Lib.hid (by have := HJ'.out; omega), HLI2, Lib.hid HLM.out.rg, Lib.hid HLM.out.xr, Lib.hid HLM.out.fr⟩
      · have tk0 : (kd == 0) = false := by simp; omega
        have tk1 : (kd == 1) = false := by simp; omega
        have tk2 : (kd == 2) = true := by simp; omega
        clear hk
        have q2 := HO.out.cells.2.2
        obtain ⟨⟨E1, E2, Z2, n2⟩, hR⟩ : ∃ R, spendX q Z n cost = R := ⟨_, rfl⟩
        have hrel := spend_rel (q := q) HLI.out.cir cost
        have HLI2 := Lib.hid (show LI Z2 n2 (65536 * ((i + 1 : Nat) : Int)) from by
          have := HLI.out.spend HQ.out cost
          rw [hR] at this
          rw [show (65536 : Int) * ((i + 1 : Nat) : Int) = 65536 * (i : Int) + 65536 from by omega]
          exact this)
        rw [hR] at hrel
        have HA := spend_any b w.heap.size q (rot n Z) cost y HRY.out HQ.out HLN.out HSM.out
        rw [hrel.1, hrel.2.1, hrel.2.2.1] at HA
        have HX := fun (w2 : World) (hf : FR w.heap.size y w2) => xspend_any x w.heap.size n q Z cost w2 (HXY.out.ring hf) HLI.out.cir.at_ HLI.out.len HQ.out HSZ.out
        rw [hR] at HX
        dsimp only at HA HX
        have HA := Lib.hid HA
        have HX := Lib.hid HX
        clear hR hrel
        rw [HY.out] at q2 HA
        rw [← HGG.out] at q2
        go_wp2_with fail
        refine HA.out.mono ?_
        rintro e w2 ⟨rfl, hg2, hf2⟩
        rw [← HY.out] at hf2
        rw [HGG.out]
        have HG2 := Lib.hid hg2
        have HF2 := Lib.hid hf2
        have HX2 := Lib.hid (HX.out _ hf2)
        have HO2 := Lib.hid (HO.out.ring hf2)
        have q3 := HO2.out.cells.2.2
        clear hg2 hf2 HA HX HY HGG q2 c0 c1 c2 tk0 tk1 tk2
        go_wp2_with fail
        refine HX2.out.mono ?_
        rintro e wz ⟨rfl, hg3, hf3⟩
        have HXZ := Lib.hid hg3
        have HF3 := Lib.hid hf3
        have HRZ := Lib.hid (HG2.out.ref hf3)
        have HOZ := Lib.hid (HO2.out.ref hf3)
        have HBZ := Lib.hid ((HBY.out.trans HF2.out.below).trans hf3.below)
        clear hg3 hf3 HX2 HG2 HF2 HF3 HO HO2 HRY HXY HBY HLI HSM HSZ HLN HGL q3
        go_wp2_with fail
        have hi150 : i < 150 := HJ'.out.2.1
        have HSM2 := Lib.hid (HLI2.out.small_rot (by omega))
        have HL16 := Lib.hid HLI2.out.len
        have hidl : ((rot n2 Z2).map (·.1)).length = Z2.length := ids_len
        have HIDL := Lib.hid hidl
        have HCR := Lib.hid HLI2.out.cir
        have HTU := turn_any b w.heap.size q (rot n2 Z2)
        rw [rot_length] at HTU
        have HTU := Lib.hid HTU
        have hN16 : (Z2.length : Int) ≤ 16 := by have := HLI2.out.len; omega
        clear hidl hi150
        refine (members_any b w.heap.size q (rot n2 Z2) wz HRZ.out HQ.out.1 (by rw [rot_length]; have := HL16.out; omega)).mono ?_
        rintro e w4 ⟨v14, rfl, hr4, hb4⟩
        obtain ⟨A4, c4, hv4, hc4, _⟩ := Kd.R_reads hr4
        rw [HIDL.out] at hv4 hc4
        subst hv4
        have HM1 := Lib.hid (Kd.R_lower hr4 HBZ.out.size)
        have HR4 := Lib.hid (HRZ.out.below hb4)
        have HX4 := Lib.hid (HXZ.out.below hb4)
        have HO4 := Lib.hid (HOZ.out.below hb4)
        have HB4 := Lib.hid (stay1 HBZ.out hb4)
        clear hr4 hb4 HRZ HXZ HOZ HBZ hc4
        go_wp2_with fail
        refine (xmembers_any x w.heap.size n2 q Z2 w4 HX4.out (by have := HL16.out; omega) HCR.out.at_).mono ?_
        rintro e w5 ⟨v15, rfl, hr5, hb5⟩
        obtain ⟨A5, c5, hv5, hc5, _⟩ := Kd.R_reads hr5
        rw [HIDL.out] at hv5 hc5
        subst hv5
        have HLM := Lib.hid (show LM b x q Z2 n2 (.slice A4 Z2.length c4) (.slice A5 Z2.length c5) w w5 from ⟨HR4.out.below hb5, HX4.out.below hb5, stay1 HB4.out hb5, Kd.R_below HM1.out hb5, Kd.R_lower hr5 HB4.out.size⟩)
        have HO5 := Lib.hid (HO4.out.below hb5)
        clear hr5 hb5 HR4 HX4 HO4 HB4 HM1 hc5
        go_wp2_with fail
        have HT5 := Lib.hid (HTU.out w5 HLM.out.rg HQ.out.1)
        rcases Nat.eq_zero_or_pos Z2.length with hN | hN
        · -- none
          have hZ : Z2 = [] := List.eq_nil_of_length_eq_zero hN
          subst hZ
          rw [if_pos (show ([] : List Mem).length = 0 from rfl), show decide (0 < ([] : List Mem).length) = false from rfl] at HT5
          refine HT5.out.mono ?_
          rintro e _ ⟨rfl, rfl⟩
          have HCA := fun (W : World) (hb : Below w5.heap.size w5 W) => credit_any b w.heap.size q (rot n2 []) id W (HLM.out.rg.below hb) HQ.out.1
          have HCB := fun (W : World) (hb : Below w5.heap.size w5 W) => xcredit_any x w.heap.size n2 q [] id W (HLM.out.xr.below hb) (by simp)
          rw [HCR.out.cred id] at HCA
          obtain ⟨cr, hcr⟩ : ∃ cr, credP [] id = cr := ⟨_, rfl⟩
          rw [hcr] at HCA HCB
          have HCA := Lib.hid HCA
          have HCB := Lib.hid HCB
          have g1 : ∀ m : Q.GW w5.drew w5.heap.size none, m.w.cell? ⟨g, 1, none⟩ = some (.int .u64 id) := fun m => pw_cell_below (stay1 (stay0 w5) m.below) HO5.out.cells.2.1
          clear HT5 HTU hcr hN
          go_wp2_with fail
          refine Q.wp_region_segs none [([0, 1, 2, 3, 4, 5, 6, 7, 8, 9, 10, 11, 12, 13, 14, 15, 16, 17, 18, 19, 20, 21, 22, 23, 24, 25, 27, 28, 29], some 26), ([], some 30), ([31, 32], none)] (by kernel_rfl) (by kernel_rfl) (by kernel_rfl) (by kernel_rfl) ?_
          dsimp only [Q.wpSegs, Q.picks, Q.pick]
          repeat (go_big_quiet_step (fail))
          refine wpQuiet_nil ?_
          clear g1
          go_wp2_with (go_at_call 26; refine (HCA.out _ (stay0 w5)).mono ?_; rintro e w6 ⟨rfl, hb6⟩; (have HB6 := Lib.hid (stay1 (stay0 w5) hb6)); (have HB6b := Lib.hid hb6); clear hb6)
          refine Q.ev_done HB6b.out (Nat.le_refl _) ?_
          refine wpQuiet_nil ?_
          go_wp2_with (go_at_call 27; refine (HCB.out _ HB6.out).mono ?_; rintro e _ ⟨rfl, rfl⟩)
          refine Q.ev_done (Below.refl _ _) (Nat.le_refl _) ?_
          repeat (go_big_quiet_step (fail))
          refine wpQuiet_nil ?_
          refine NoPanic.normal ?_
          have HLM6 := Lib.hid (HLM.out.below HB6.out)
          clear HCA HCB HLM HB6 HB6b HO5
          go_wp2_with fail
          refine wp_loop_rounds 1 ?_
          rw [rounds_succ]
          go_wp2_with fail
          go_roundg k
          case measure => have := HJ'.out; omega
          case rel => exact ⟨i + 1, [], n2, by go_num, Lib.hid (by have := HJ'.out; omega), HLI2, Lib.hid HLM6.out.rg, Lib.hid HLM6.out.xr, Lib.hid HLM6.out.fr⟩
        · -- some
          rw [if_neg (show ¬ Z2.length = 0 from by omega), show decide (0 < Z2.length) = true from decide_eq_true hN] at HT5
          have hh : headId (rot n2 Z2) = ((rot n2 Z2).map (·.1)).getD 0 0 := (map_getD1 (by rw [rot_length]; exact hN)).symm
          rw [hh] at HT5
          obtain ⟨ids, hids⟩ : ∃ ids, (rot n2 Z2).map (·.1) = ids := ⟨_, rfl⟩
          rw [hids] at HT5 HIDL
          obtain ⟨g4, hg4, _, _, hc4⟩ := row_at HLM.out.m1 (by rw [hids, HIDL.out]; exact hN)
          obtain ⟨g5, hg5, _, _, hc5⟩ := row_at HLM.out.m2 (by rw [hids, HIDL.out]; exact hN)
          rw [hids] at hc4 hc5
          subst hg4 hg5
          have e5 := hc5 0 (by rw [HIDL.out]; exact hN)
          have HIDS := Lib.hid hids
          obtain ⟨hd, hhd⟩ : ∃ hd, ids.getD 0 0 = hd := ⟨_, rfl⟩
          rw [hhd] at HT5 e5
          clear hc4 hc5 hids hh hhd HTU
          have t6 : decide ((0 : Int) < (Z2.length : Int)) = true := decide_eq_true (by omega)
          have z6 : (0 : Int) < (Z2.length : Int) := by omega
          refine HT5.out.mono ?_
          rintro e _ ⟨rfl, rfl⟩
          have HCA := fun (idv : Int) (W : World) (hr : RG b q (rot n2 Z2) w.heap.size W) => credit_any b w.heap.size q (rot n2 Z2) idv W hr HQ.out.1
          have HCB := fun (idv : Int) (W : World) (hr : XR x q Z2 n2 w.heap.size W) => xcredit_any x w.heap.size n2 q Z2 idv W hr (by have := HL16.out; omega)
          have HCA := Lib.hid HCA
          have HCB := Lib.hid HCB
          have HCA1 := HCA.out id
          have HCB1 := HCB.out id
          rw [HCR.out.cred id] at HCA1
          obtain ⟨cr, hcr⟩ : ∃ cr, credP Z2 id = cr := ⟨_, rfl⟩
          rw [hcr] at HCA1 HCB1
          have HCA1 := Lib.hid HCA1
          have HCB1 := Lib.hid HCB1
          have g1 : ∀ m : Q.GW w5.drew w5.heap.size none, m.w.cell? ⟨g, 1, none⟩ = some (.int .u64 id) := fun m => pw_cell_below (stay1 (stay0 w5) m.below) HO5.out.cells.2.1
          have g2 : ∀ m : Q.GW w5.drew w5.heap.size none, m.w.cell? ⟨g5, 0, none⟩ = some (.int .u64 hd) := fun m => pw_cell_below (stay1 (stay0 w5) m.below) e5
          clear HT5 hcr e5
          go_wp2_with fail
          refine Q.wp_region_segs none [([0, 1, 2, 3, 4, 5, 6, 7, 8, 9, 10, 11, 12, 13, 14, 15, 16, 17, 18, 19, 20, 21, 22, 23, 24, 25, 27, 28, 29], some 26), ([], some 30), ([31, 32], none)] (by kernel_rfl) (by kernel_rfl) (by kernel_rfl) (by kernel_rfl) ?_
          dsimp only [Q.wpSegs, Q.picks, Q.pick]
          repeat (go_big_quiet_step (fail))
          refine wpQuiet_nil ?_
          clear g1 g2 t6 z6
          go_wp2_with (go_at_call 26; refine (HCA1.out _ (HLM.out.rg.below (stay0 w5))).mono ?_; rintro e w6 ⟨rfl, hb6⟩; (have HB6 := Lib.hid (stay1 (stay0 w5) hb6)); (have HB6b := Lib.hid hb6); clear hb6)
          refine Q.ev_done HB6b.out (Nat.le_refl _) ?_
          refine wpQuiet_nil ?_
          go_wp2_with (go_at_call 27; refine (HCB1.out _ (HLM.out.xr.below HB6.out)).mono ?_; rintro e _ ⟨rfl, rfl⟩)
          refine Q.ev_done (Below.refl _ _) (Nat.le_refl _) ?_
          repeat (go_big_quiet_step (fail))
          refine wpQuiet_nil ?_
          refine NoPanic.normal ?_
          replace HLM := Lib.hid (HLM.out.below HB6.out)
          clear HCA1 HCB1 HB6 HB6b HO5
          go_wp2_with fail
          go_loopg [18] (Z2.length + 1) (fun g v18 w' => ∃ (j : Nat), v18 = .int .i64 j ∧ Hid (j ≤ Z2.length ∧ Z2.length < g + j) ∧ Hid (LM b x q Z2 n2 (.slice (some ⟨g4, 0, none⟩) Z2.length c4) (.slice (some ⟨g5, 0, none⟩) Z2.length c5) w w'))
          case atStart => exact ⟨0, rfl, Lib.hid ⟨by omega, by omega⟩, HLM⟩
          case round =>
            clear HLM
            obtain ⟨j, rfl, HJ2, HLM⟩ := hrel
            cases gk with
            | zero => have := HJ2.out; omega
            | succ k2 =>
              by_cases hjl : j < Z2.length
              · have HJ2' := Lib.hid (show j < Z2.length ∧ Z2.length < (k2 + 1) + j from ⟨hjl, HJ2.out.2⟩)
                have f4 := row_cell HLM.out.m1 (j := j) (by rw [HIDS.out, HIDL.out]; exact hjl)
                have f5 := row_cell HLM.out.m2 (j := j) (by rw [HIDS.out, HIDL.out]; exact hjl)
                rw [HIDS.out, Nat.zero_add] at f4 f5
                obtain ⟨yv, hyv⟩ : ∃ yv, ids.getD j 0 = yv := ⟨_, rfl⟩
                rw [hyv] at f4 f5
                have HCA1 := HCA.out yv
                have HCB1 := HCB.out yv
                rw [HCR.out.cred yv] at HCA1
                obtain ⟨cr, hcr⟩ : ∃ cr, credP Z2 yv = cr := ⟨_, rfl⟩
                rw [hcr] at HCA1 HCB1
                have HCA1 := Lib.hid HCA1
                have HCB1 := Lib.hid HCB1
                have z1 : (0 : Int) ≤ (j : Int) := by omega
                have z2 : (j : Int) < (Z2.length : Int) := by omega
                have g1 : ∀ m : Q.GW wr.drew wr.heap.size none, m.w.cell? ⟨g4, j, none⟩ = some (.int .u64 yv) := fun m => pw_cell_below (stay1 (stay0 wr) m.below) f4
                have g2 : ∀ m : Q.GW wr.drew wr.heap.size none, m.w.cell? ⟨g5, j, none⟩ = some (.int .u64 yv) := fun m => pw_cell_below (stay1 (stay0 wr) m.below) f5
                clear hyv hcr f4 f5 HJ2
                go_wp2_with fail
                refine Q.wp_region_segs none [([0, 1, 2, 3, 4, 5, 6, 7, 8, 9, 10, 11, 12, 13, 14, 16, 17, 18, 19, 20], some 15), ([], some 21), ([22, 23], none)] (by kernel_rfl) (by kernel_rfl) (by kernel_rfl) (by kernel_rfl) ?_
                dsimp only [Q.wpSegs, Q.picks, Q.pick]
                repeat (go_big_quiet_step (fail))
                refine wpQuiet_nil ?_
                clear g1 g2 z1 z2
                go_wp2_with (go_at_call 26; refine (HCA1.out _ (HLM.out.rg.below (stay0 wr))).mono ?_; rintro e w6 ⟨rfl, hb6⟩; (have HB6 := Lib.hid (stay1 (stay0 wr) hb6)); (have HB6b := Lib.hid hb6); clear hb6)
                refine Q.ev_done HB6b.out (Nat.le_refl _) ?_
                refine wpQuiet_nil ?_
                go_wp2_with (go_at_call 27; refine (HCB1.out _ (HLM.out.xr.below HB6.out)).mono ?_; rintro e _ ⟨rfl, rfl⟩)
                refine Q.ev_done (Below.refl _ _) (Nat.le_refl _) ?_
                repeat (go_big_quiet_step (fail))
                refine wpQuiet_nil ?_
                refine NoPanic.normal ?_
                replace HLM := Lib.hid (HLM.out.below HB6.out)
                clear HCA1 HCB1 HB6 HB6b
                go_wp2_with fail
                go_roundg k2
                case measure => have := HJ2'.out; omega
                case rel => exact ⟨j + 1, by go_num, Lib.hid (by have := HJ2'.out; omega), HLM⟩
              · clear HJ2
                go_wp2_with fail
                go_roundg k
                case measure => have := HJ'.out; omega
                case rel => exact ⟨i + 1, Z2, n2, by go_num, Lib.hid (by have := HJ'.out; omega), HLI2, Lib.hid HLM.out.rg, Lib.hid HLM.out.xr, Lib.hid HLM.out.fr⟩
      · have tk0 : (kd == 0) = false := by simp; omega
        have tk1 : (kd == 1) = false := by simp; omega
        have tk2 : (kd == 2) = false := by simp; omega
        clear hk
        go_wp2_with fail
        rw [← HY.out, HGG.out]
        obtain ⟨wz, rfl⟩ : ∃ wz, wz = y := ⟨_, rfl⟩
        obtain ⟨Z2, rfl⟩ : ∃ Z2, Z2 = Z := ⟨_, rfl⟩
        obtain ⟨n2, rfl⟩ : ∃ n2, n2 = n := ⟨_, rfl⟩
        have HXZ := HXY
        have HRZ := HRY
        have HOZ := HO
        have HBZ := HBY
        have HLI2 := Lib.hid (show LI Z2 n2 (65536 * ((i + 1 : Nat) : Int)) from by
          rw [show (65536 : Int) * ((i + 1 : Nat) : Int) = 65536 * (i : Int) + 65536 from by omega]
          exact HLI.out.more)
        clear HY HGG c0 c1 c2 tk0 tk1 tk2 HO HRY HXY HBY HLI HSM HSZ HLN HGL
        have hi150 : i < 150 := HJ'.out.2.1
        have HSM2 := Lib.hid (HLI2.out.small_rot (by omega))
        have HL16 := Lib.hid HLI2.out.len
        have hidl : ((rot n2 Z2).map (·.1)).length = Z2.length := ids_len
        have HIDL := Lib.hid hidl
        have HCR := Lib.hid HLI2.out.cir
        have HTU := turn_any b w.heap.size q (rot n2 Z2)
        rw [rot_length] at HTU
        have HTU := Lib.hid HTU
        have hN16 : (Z2.length : Int) ≤ 16 := by have := HLI2.out.len; omega
        clear hidl hi150
        refine (members_any b w.heap.size q (rot n2 Z2) wz HRZ.out HQ.out.1 (by rw [rot_length]; have := HL16.out; omega)).mono ?_
        rintro e w4 ⟨v14, rfl, hr4, hb4⟩
        obtain ⟨A4, c4, hv4, hc4, _⟩ := Kd.R_reads hr4
        rw [HIDL.out] at hv4 hc4
        subst hv4
        have HM1 := Lib.hid (Kd.R_lower hr4 HBZ.out.size)
        have HR4 := Lib.hid (HRZ.out.below hb4)
        have HX4 := Lib.hid (HXZ.out.below hb4)
        have HO4 := Lib.hid (HOZ.out.below hb4)
        have HB4 := Lib.hid (stay1 HBZ.out hb4)
        clear hr4 hb4 HRZ HXZ HOZ HBZ hc4
        go_wp2_with fail
        refine (xmembers_any x w.heap.size n2 q Z2 w4 HX4.out (by have := HL16.out; omega) HCR.out.at_).mono ?_
        rintro e w5 ⟨v15, rfl, hr5, hb5⟩
        obtain ⟨A5, c5, hv5, hc5, _⟩ := Kd.R_reads hr5
        rw [HIDL.out] at hv5 hc5
        subst hv5
        have HLM := Lib.hid (show LM b x q Z2 n2 (.slice A4 Z2.length c4) (.slice A5 Z2.length c5) w w5 from ⟨HR4.out.below hb5, HX4.out.below hb5, stay1 HB4.out hb5, Kd.R_below HM1.out hb5, Kd.R_lower hr5 HB4.out.size⟩)
        have HO5 := Lib.hid (HO4.out.below hb5)
        clear hr5 hb5 HR4 HX4 HO4 HB4 HM1 hc5
        go_wp2_with fail
        have HT5 := Lib.hid (HTU.out w5 HLM.out.rg HQ.out.1)
        rcases Nat.eq_zero_or_pos Z2.length with hN | hN
        · -- none
          have hZ : Z2 = [] := List.eq_nil_of_length_eq_zero hN
          subst hZ
          rw [if_pos (show ([] : List Mem).length = 0 from rfl), show decide (0 < ([] : List Mem).length) = false from rfl] at HT5
          refine HT5.out.mono ?_
          rintro e _ ⟨rfl, rfl⟩
          have HCA := fun (W : World) (hb : Below w5.heap.size w5 W) => credit_any b w.heap.size q (rot n2 []) id W (HLM.out.rg.below hb) HQ.out.1
          have HCB := fun (W : World) (hb : Below w5.heap.size w5 W) => xcredit_any x w.heap.size n2 q [] id W (HLM.out.xr.below hb) (by simp)
          rw [HCR.out.cred id] at HCA
          obtain ⟨cr, hcr⟩ : ∃ cr, credP [] id = cr := ⟨_, rfl⟩
          rw [hcr] at HCA HCB
          have HCA := Lib.hid HCA
          have HCB := Lib.hid HCB
          have g1 : ∀ m : Q.GW w5.drew w5.heap.size none, m.w.cell? ⟨g, 1, none⟩ = some (.int .u64 id) := fun m => pw_cell_below (stay1 (stay0 w5) m.below) HO5.out.cells.2.1
          clear HT5 HTU hcr hN
          go_wp2_with fail
          refine Q.wp_region_segs none [([0, 1, 2, 3, 4, 5, 6, 7, 8, 9, 10, 11, 12, 13, 14, 15, 16, 17, 18, 19, 20, 21, 22, 23, 24, 25, 27, 28, 29], some 26), ([], some 30), ([31, 32], none)] (by kernel_rfl) (by kernel_rfl) (by kernel_rfl) (by kernel_rfl) ?_
          dsimp only [Q.wpSegs, Q.picks, Q.pick]
          repeat (go_big_quiet_step (fail))
          refine wpQuiet_nil ?_
          clear g1
          go_wp2_with (go_at_call 26; refine (HCA.out _ (stay0 w5)).mono ?_; rintro e w6 ⟨rfl, hb6⟩; (have HB6 := Lib.hid (stay1 (stay0 w5) hb6)); (have HB6b := Lib.hid hb6); clear hb6)
          refine Q.ev_done HB6b.out (Nat.le_refl _) ?_
          refine wpQuiet_nil ?_
          go_wp2_with (go_at_call 27; refine (HCB.out _ HB6.out).mono ?_; rintro e _ ⟨rfl, rfl⟩)
          refine Q.ev_done (Below.refl _ _) (Nat.le_refl _) ?_
          repeat (go_big_quiet_step (fail))
          refine wpQuiet_nil ?_
          refine NoPanic.normal ?_
          have HLM6 := Lib.hid (HLM.out.below HB6.out)
          clear HCA HCB HLM HB6 HB6b HO5
          go_wp2_with fail
          refine wp_loop_rounds 1 ?_
          rw [rounds_succ]
          go_wp2_with fail
          go_roundg k
          case measure => have := HJ'.out; omega
          case rel => exact ⟨i + 1, [], n2, by go_num, Lib.hid (by have := HJ'.out; omega), HLI2, Lib.hid HLM6.out.rg, Lib.hid HLM6.out.xr, Lib.hid HLM6.out.fr⟩
        · -- some
          rw [if_neg (show ¬ Z2.length = 0 from by omega), show decide (0 < Z2.length) = true from decide_eq_true hN] at HT5
          have hh : headId (rot n2 Z2) = ((rot n2 Z2).map (·.1)).getD 0 0 := (map_getD1 (by rw [rot_length]; exact hN)).symm
          rw [hh] at HT5
          obtain ⟨ids, hids⟩ : ∃ ids, (rot n2 Z2).map (·.1) = ids := ⟨_, rfl⟩
          rw [hids] at HT5 HIDL
          obtain ⟨g4, hg4, _, _, hc4⟩ := row_at HLM.out.m1 (by rw [hids, HIDL.out]; exact hN)
          obtain ⟨g5, hg5, _, _, hc5⟩ := row_at HLM.out.m2 (by rw [hids, HIDL.out]; exact hN)
          rw [hids] at hc4 hc5
          subst hg4 hg5
          have e5 := hc5 0 (by rw [HIDL.out]; exact hN)
          have HIDS := Lib.hid hids
          obtain ⟨hd, hhd⟩ : ∃ hd, ids.getD 0 0 = hd := ⟨_, rfl⟩
          rw [hhd] at HT5 e5
          clear hc4 hc5 hids hh hhd HTU
          have t6 : decide ((0 : Int) < (Z2.length : Int)) = true := decide_eq_true (by omega)
          have z6 : (0 : Int) < (Z2.length : Int) := by omega
          refine HT5.out.mono ?_
          rintro e _ ⟨rfl, rfl⟩
          have HCA := fun (idv : Int) (W : World) (hr : RG b q (rot n2 Z2) w.heap.size W) => credit_any b w.heap.size q (rot n2 Z2) idv W hr HQ.out.1
          have HCB := fun (idv : Int) (W : World) (hr : XR x q Z2 n2 w.heap.size W) => xcredit_any x w.heap.size n2 q Z2 idv W hr (by have := HL16.out; omega)
          have HCA := Lib.hid HCA
          have HCB := Lib.hid HCB
          have HCA1 := HCA.out id
          have HCB1 := HCB.out id
          rw [HCR.out.cred id] at HCA1
          obtain ⟨cr, hcr⟩ : ∃ cr, credP Z2 id = cr := ⟨_, rfl⟩
          rw [hcr] at HCA1 HCB1
          have HCA1 := Lib.hid HCA1
          have HCB1 := Lib.hid HCB1
          have g1 : ∀ m : Q.GW w5.drew w5.heap.size none, m.w.cell? ⟨g, 1, none⟩ = some (.int .u64 id) := fun m => pw_cell_below (stay1 (stay0 w5) m.below) HO5.out.cells.2.1
          have g2 : ∀ m : Q.GW w5.drew w5.heap.size none, m.w.cell? ⟨g5, 0, none⟩ = some (.int .u64 hd) := fun m => pw_cell_below (stay1 (stay0 w5) m.below) e5
          clear HT5 hcr e5
          go_wp2_with fail
          refine Q.wp_region_segs none [([0, 1, 2, 3, 4, 5, 6, 7, 8, 9, 10, 11, 12, 13, 14, 15, 16, 17, 18, 19, 20, 21, 22, 23, 24, 25, 27, 28, 29], some 26), ([], some 30), ([31, 32], none)] (by kernel_rfl) (by kernel_rfl) (by kernel_rfl) (by kernel_rfl) ?_
          dsimp only [Q.wpSegs, Q.picks, Q.pick]
          repeat (go_big_quiet_step (fail))
          refine wpQuiet_nil ?_
          clear g1 g2 t6 z6
          go_wp2_with (go_at_call 26; refine (HCA1.out _ (HLM.out.rg.below (stay0 w5))).mono ?_; rintro e w6 ⟨rfl, hb6⟩; (have HB6 := Lib.hid (stay1 (stay0 w5) hb6)); (have HB6b := Lib.hid hb6); clear hb6)
          refine Q.ev_done HB6b.out (Nat.le_refl _) ?_
          refine wpQuiet_nil ?_
          go_wp2_with (go_at_call 27; refine (HCB1.out _ (HLM.out.xr.below HB6.out)).mono ?_; rintro e _ ⟨rfl, rfl⟩)
          refine Q.ev_done (Below.refl _ _) (Nat.le_refl _) ?_
          repeat (go_big_quiet_step (fail))
          refine wpQuiet_nil ?_
          refine NoPanic.normal ?_
          replace HLM := Lib.hid (HLM.out.below HB6.out)
          clear HCA1 HCB1 HB6 HB6b HO5
          go_wp2_with fail
          go_loopg [18] (Z2.length + 1) (fun g v18 w' => ∃ (j : Nat), v18 = .int .i64 j ∧ Hid (j ≤ Z2.length ∧ Z2.length < g + j) ∧ Hid (LM b x q Z2 n2 (.slice (some ⟨g4, 0, none⟩) Z2.length c4) (.slice (some ⟨g5, 0, none⟩) Z2.length c5) w w'))
          case atStart => exact ⟨0, rfl, Lib.hid ⟨by omega, by omega⟩, HLM⟩
          case round =>
            clear HLM
            obtain ⟨j, rfl, HJ2, HLM⟩ := hrel
            cases gk with
            | zero => have := HJ2.out; omega
            | succ k2 =>
              by_cases hjl : j < Z2.length
              · have HJ2' := Lib.hid (show j < Z2.length ∧ Z2.length < (k2 + 1) + j from ⟨hjl, HJ2.out.2⟩)
                have f4 := row_cell HLM.out.m1 (j := j) (by rw [HIDS.out, HIDL.out]; exact hjl)
                have f5 := row_cell HLM.out.m2 (j := j) (by rw [HIDS.out, HIDL.out]; exact hjl)
                rw [HIDS.out, Nat.zero_add] at f4 f5
                obtain ⟨yv, hyv⟩ : ∃ yv, ids.getD j 0 = yv := ⟨_, rfl⟩
                rw [hyv] at f4 f5
                have HCA1 := HCA.out yv
                have HCB1 := HCB.out yv
                rw [HCR.out.cred yv] at HCA1
                obtain ⟨cr, hcr⟩ : ∃ cr, credP Z2 yv = cr := ⟨_, rfl⟩
                rw [hcr] at HCA1 HCB1
                have HCA1 := Lib.hid HCA1
                have HCB1 := Lib.hid HCB1
                have z1 : (0 : Int) ≤ (j : Int) := by omega
                have z2 : (j : Int) < (Z2.length : Int) := by omega
                have g1 : ∀ m : Q.GW wr.drew wr.heap.size none, m.w.cell? ⟨g4, j, none⟩ = some (.int .u64 yv) := fun m => pw_cell_below (stay1 (stay0 wr) m.below) f4
                have g2 : ∀ m : Q.GW wr.drew wr.heap.size none, m.w.cell? ⟨g5, j, none⟩ = some (.int .u64 yv) := fun m => pw_cell_below (stay1 (stay0 wr) m.below) f5
                clear hyv hcr f4 f5 HJ2
                go_wp2_with fail
                refine Q.wp_region_segs none [([0, 1, 2, 3, 4, 5, 6, 7, 8, 9, 10, 11, 12, 13, 14, 16, 17, 18, 19, 20], some 15), ([], some 21), ([22, 23], none)] (by kernel_rfl) (by kernel_rfl) (by kernel_rfl) (by kernel_rfl) ?_
                dsimp only [Q.wpSegs, Q.picks, Q.pick]
                repeat (go_big_quiet_step (fail))
                refine wpQuiet_nil ?_
                clear g1 g2 z1 z2
                go_wp2_with (go_at_call 26; refine (HCA1.out _ (HLM.out.rg.below (stay0 wr))).mono ?_; rintro e w6 ⟨rfl, hb6⟩; (have HB6 := Lib.hid (stay1 (stay0 wr) hb6)); (have HB6b := Lib.hid hb6); clear hb6)
                refine Q.ev_done HB6b.out (Nat.le_refl _) ?_
                refine wpQuiet_nil ?_
                go_wp2_with (go_at_call 27; refine (HCB1.out _ (HLM.out.xr.below HB6.out)).mono ?_; rintro e _ ⟨rfl, rfl⟩)
                refine Q.ev_done (Below.refl _ _) (Nat.le_refl _) ?_
                repeat (go_big_quiet_step (fail))
                refine wpQuiet_nil ?_
                refine NoPanic.normal ?_
                replace HLM := Lib.hid (HLM.out.below HB6.out)
                clear HCA1 HCB1 HB6 HB6b
                go_wp2_with fail
                go_roundg k2
                case measure => have := HJ2'.out; omega
                case rel => exact ⟨j + 1, by go_num, Lib.hid (by have := HJ2'.out; omega), HLM⟩
              · clear HJ2
                go_wp2_with fail
                go_roundg k
                case measure => have := HJ'.out; omega
                case rel => exact ⟨i + 1, Z2, n2, by go_num, Lib.hid (by have := HJ'.out; omega), HLI2, Lib.hid HLM.out.rg, Lib.hid HLM.out.xr, Lib.hid HLM.out.fr⟩
theorem lives_walk (q : Int) (l : List OpD) (A : Option Addr) (c : Nat) (w : World) (hC : kOp.C w A l.length l) :
    Calls Try.prog 4 #[.int .i64 q, .slice A l.length c] w fun e w' => e = .returned (.bool true) ∧ Below w.heap.size w w' := by
  by_cases hq : 1 ≤ q ∧ q ≤ 65536
  · exact lives_main q l A c w hq hC
  · exact lives_early q l A c w (by omega)
end Go.Proofs.Ytbcononfgpfdbaa.D
