/-
  frag: the law of parts that go there and back.
-/
import Derived.Test.YthgdbdhonhkkpaaGj

namespace Go.Proofs.Ythgdbdhonhkkpaa.Fg
open Go.RowKit Go.Proofs.Ythgdbdhonhkkpaa.L Go.Proofs.Ythgdbdhonhkkpaa.V Go.Proofs.Ythgdbdhonhkkpaa.N Go.Proofs.YthgdbdhonhkkpaaW.PrintWords

theorem ok_take {l : List Int} (h : okB l) (n : Nat) : okB (l.take n) := fun x hx => h x (List.mem_of_mem_take hx)
theorem ok_drop {l : List Int} (h : okB l) (n : Nat) : okB (l.drop n) := fun x hx => h x (List.mem_of_mem_drop hx)
set_option maxRecDepth 100000 in
set_option maxHeartbeats 3200000 in
theorem back_walk (id : Int) (l : List Int) (A : Option Addr) (c : Nat) (bs : List Int) (B : Option Addr) (cb : Nat) (w : World) (hC : (Kd.int .u8).C w A l.length l) (hc : l.length ≤ c) (hl : okB l) (hB : (Kd.int .u8).C w B bs.length bs) (hcb : bs.length ≤ cb) (hb : okB bs) :
    Calls Try.prog 6 #[.int .u64 id, .slice A l.length c, .slice B bs.length cb] w fun e w' => e = .returned (.bool true) ∧ Below w.heap.size w w' := by
  have hmx := Kd.C_max hC
  have hmx2 := Kd.C_max hB
  by_cases hg0 : 24000 < l.length
  · have HAl := Lib.hid (alive_any w)
    have tg_l : decide ((24000 : Int) < (l.length : Int)) = true := decide_eq_true (by omega)
    clear hC hc hl hB hcb hb hg0
    go_enter Try.func6, Try.ntmps6
    go_wp2_with fail
    refine HAl.out.mono ?_
    rintro e w1 ⟨rfl, hb⟩
    go_wp2_with fail
    go_ret
    exact ⟨rfl, hb⟩
  have tg_l : decide ((24000 : Int) < (l.length : Int)) = false := decide_eq_false (by omega)
  by_cases hg1 : 600 < bs.length
  · have HAl := Lib.hid (alive_any w)
    have tg_bs : decide ((600 : Int) < (bs.length : Int)) = true := decide_eq_true (by omega)
    clear hC hc hl hB hcb hb hg0 hg1
    go_enter Try.func6, Try.ntmps6
    go_wp2_with fail
    refine HAl.out.mono ?_
    rintro e w1 ⟨rfl, hb⟩
    go_wp2_with fail
    go_ret
    exact ⟨rfl, hb⟩
  have tg_bs : decide ((600 : Int) < (bs.length : Int)) = false := decide_eq_false (by omega)
  by_cases hg2 : id < 1
  · have HAl := Lib.hid (alive_any w)
    have tl_id : decide (id < 1) = true := decide_eq_true (by omega)
    clear hC hc hl hB hcb hb hg0 hg1 hg2
    go_enter Try.func6, Try.ntmps6
    go_wp2_with fail
    refine HAl.out.mono ?_
    rintro e w1 ⟨rfl, hb⟩
    go_wp2_with fail
    go_ret
    exact ⟨rfl, hb⟩
  have tl_id : decide (id < 1) = false := decide_eq_false (by omega)
  by_cases hg3 : 4611686018427387903 < id
  · have HAl := Lib.hid (alive_any w)
    have tr_id : decide (4611686018427387903 < id) = true := decide_eq_true (by omega)
    clear hC hc hl hB hcb hb hg0 hg1 hg2 hg3
    go_enter Try.func6, Try.ntmps6
    go_wp2_with fail
    refine HAl.out.mono ?_
    rintro e w1 ⟨rfl, hb⟩
    go_wp2_with fail
    go_ret
    exact ⟨rfl, hb⟩
  have tr_id : decide (4611686018427387903 < id) = false := decide_eq_false (by omega)
  obtain ⟨L, hL⟩ : ∃ L, spL id l = L := ⟨_, rfl⟩
  obtain ⟨e0, e1, hat⟩ := sp_at (id := id) (l := l) (by omega) (decide_eq_true ⟨by omega, by omega⟩) hL
  obtain ⟨hr, hjE, hjD⟩ := join_split (id := id) (l := l) (by omega) (by omega) (by omega) hL
  have hq := split_any id l A c w hC hc
  rw [hL, e0] at hq
  obtain ⟨b1, b2, b3, b4⟩ := cnt_bounds (show l.length ≤ 24000 by omega)
  rw [← e1] at b1 b2 b3 b4
  have hcn := fun w => count_any (l.length : Int) w
  rw [cnt_cast (by omega), ← e1] at hcn
  have HQ := Lib.hid hq
  have HCn := Lib.hid hcn
  have HOk := Lib.hid (show ∀ i, i < L.length → okB (L.getD i zP).2.2.2 from fun i hi => by rw [(hat i hi).2.2.2.1]; exact ok_drop (ok_take hl _) _)
  have HAt := Lib.hid (show ∀ i, i < L.length → (L.getD i zP).2.2.2.length ≤ 480 from fun i hi => (right_id (hr i hi)).2.2.2.2.2.2)
  have HRt := Lib.hid hr
  have HjE := Lib.hid hjE
  have HjD := Lib.hid hjD
  have HN := Lib.hid (show 1 ≤ L.length ∧ L.length ≤ 50 ∧ l.length ≤ 24000 ∧ bs.length ≤ 600 from ⟨b1, b2, by omega, by omega⟩)
  have HA := Lib.hid hC
  have HBb := Lib.hid hB
  have HBc := Lib.hid hcb
  have HBo := Lib.hid hb
  have z1 : (L.length : Int) ≤ 50 := by omega
  have z2 : (l.length : Int) ≤ 24000 := by omega
  clear hC hc hl hB hcb hb hL e0 e1 hat hr hjE hjD hq hcn b1 b2 b3 b4 hg0 hg1 hg2 hg3
  go_enter Try.func6, Try.ntmps6
  go_wp2_with (first
    | (go_at_call 17; refine HQ.out.mono ?_; rintro e W1 ⟨v, rfl, hv, hb1⟩; obtain ⟨A1, c1, rfl, hc1, hC1⟩ := Kd.R_reads hv; (have HC1 := Lib.hid hC1); (have HB1 := Lib.hid hb1); clear hv hc1 hC1 hb1 HQ)
    | (go_at_call 23; refine (HCn.out _).mono ?_; rintro e w1 ⟨rfl, hw1⟩; (rw [hw1]); clear hw1 w1))
  go_loopg [9, 10] (L.length + 1) (fun g v9 v10 w' => ∃ i : Nat, v10 = .int .i64 i ∧ Hid (i ≤ L.length ∧ L.length < g + i) ∧ Hid (kP.R tP w' W1.heap.size (fun _ => True) v9 (L.take i)) ∧ Hid (Below W1.heap.size W1 w'))
  case atStart => exact ⟨0, rfl, Lib.hid ⟨by omega, by omega⟩, Lib.hid (Kd.R_nil _ _ _ _ _), Lib.hid (Below.refl _ _)⟩
  case round =>
    obtain ⟨i, rfl, HJ, HR, HB⟩ := hrel
    cases gk with
    | zero => have := HJ.out; omega
    | succ k =>
      by_cases hlt : i < L.length
      · have HJ' := Lib.hid (show i < L.length ∧ L.length < (k + 1) + i from ⟨hlt, HJ.out.2⟩)
        have hop := (P_open HC1.out).2.resolve_left (fun h => by rw [h] at hlt; simp at hlt)
        obtain ⟨b, off, rfl, hbl, hcells⟩ := hop
        obtain ⟨c0, c1', c2, Aj, cj, c3, hcj, hCj⟩ := hcells i hlt
        have hri := HRt.out i hlt
        have hok := HOk.out i hlt
        have HTk := Lib.hid (show L.take (i + 1) = L.take i ++ [((L.getD i zP).1, (L.getD i zP).2.1, (L.getD i zP).2.2.1, (L.getD i zP).2.2.2)] from by
          rw [List.take_add_one, List.getD_eq_getElem?_getD, List.getElem?_eq_getElem hlt]; rfl)
        have c0 := (HB.out.cell (p := ⟨b, off + i * 4, none⟩) hbl).trans c0
        have c1' := (HB.out.cell (p := ⟨b, off + i * 4 + 1, none⟩) hbl).trans c1'
        have c2 := (HB.out.cell (p := ⟨b, off + i * 4 + 2, none⟩) hbl).trans c2
        have c3 := (HB.out.cell (p := ⟨b, off + i * 4 + 3, none⟩) hbl).trans c3
        have HBl := Lib.hid hbl
        have HK0 := Lib.hid c0
        have HK1 := Lib.hid c1'
        have HK2 := Lib.hid c2
        have HK3 := Lib.hid c3
        have HCj := Lib.hid (Kd.C_below hCj HB.out)
        have z3 : (0 : Int) ≤ (i : Int) := by omega
        have z4 : (i : Int) < (L.length : Int) := by omega
        clear hcells HJ hcj hCj hbl hlt
        generalize (L.getD i zP).1 = x0 at *
        generalize (L.getD i zP).2.1 = x1 at *
        generalize (L.getD i zP).2.2.1 = x2 at *
        generalize (L.getD i zP).2.2.2 = x3 at *
        have HRi := Lib.hid hri
        have HOi := Lib.hid hok
        have HRw := Lib.hid (read_write hri)
        have HWl := Lib.hid (wrL_len hri)
        have HWo := Lib.hid (wrL_ok hri hok)
        have hq := write_any x0 x1 x2 x3 Aj cj wr HCj.out
        rw [show wrE x0 x1 x2 x3 = 0 from if_pos hri] at hq
        obtain ⟨y, hy⟩ : ∃ y, wrL x0 x1 x2 x3 = y := ⟨_, rfl⟩
        rw [hy] at hq HRw HWl HWo
        have HQ2 := Lib.hid hq
        clear hri hok hq hy
        go_wp2_with (go_at_call 24; refine HQ2.out.mono ?_; rintro e W2 ⟨v, rfl, hv, hb2⟩; obtain ⟨A2, c2', rfl, hc2, hC2⟩ := Kd.R_reads hv; (have HC2 := Lib.hid hC2); (have Hc2 := Lib.hid hc2); (have HB2 := Lib.hid hb2); clear hv hc2 hC2 hb2 HQ2)
        have HB12 := Lib.hid (HB.out.trans (HB2.out.mono HB.out.size))
        have hq := read_any y A2 c2' W2 HC2.out Hc2.out HWo.out (by have := HWl.out; omega)
        rw [HRw.out] at hq
        refine hq.mono ?_
        clear hq
        rintro e W3 ⟨v, rfl, hv, hb3⟩
        obtain ⟨A3, c3', rfl⟩ := Kd.R_slice hv
        simp only [ptV]
        have HV3 := Lib.hid hv
        have HB3 := Lib.hid (HB2.out.trans (hb3.mono HB2.out.size))
        have HS3 := Lib.hid (show W2.heap.size ≤ W3.heap.size from hb3.size)
        clear hv hb3 c0 c1' c2 c3 HC2 Hc2 HRw HWo
        have hyl := HWl.out
        have z5 : (y.length : Int) ≤ 490 := by omega
        have z6 : decide ((512 : Int) < (y.length : Int)) = false := decide_eq_false (by omega)
        have z6n : decide (512 < y.length) = false := decide_eq_false (by omega)
        clear hyl
        go_wp2_with fail
        refine wp_at fun W4 hW4 => ?_
        have hb4 : Below W3.heap.size W3 W4 := hW4 ▸ (Below.refl _ _).alloc (Nat.le_refl _) _
        have hX4 : W4.heap[W3.heap.size]? = some (.cells #[.int .u64 x0, .int .i64 x1, .int .i64 x2, .slice A3 x3.length c3'] tP (0, 0)) := hW4 ▸ heap_alloc_new _ _
        have HX4 := Lib.hid hX4
        have HB4 := Lib.hid (HB3.out.trans (hb4.mono HB3.out.size))
        have HV4 := Lib.hid (Kd.R_below HV3.out hb4)
        clear hW4 hb4 hX4 HV3 HB3
        have bx : W3.heap.size < W4.heap.size := blk_lt HX4.out
        have bb : b < W4.heap.size := Nat.lt_of_lt_of_le HBl.out (Nat.le_trans HB.out.size HB4.out.size)
        have up := fun {o : Nat} {v : Value} (h : wr.cell? ⟨b, o, none⟩ = some v) => (HB4.out.cell (p := ⟨b, o, none⟩) (Nat.lt_of_lt_of_le HBl.out HB.out.size)).trans h
        have p0 := gw bx ((blk_cell HX4.out 0).trans rfl)
        have p1 := gw bx ((blk_cell HX4.out 1).trans rfl)
        have p2 := gw bx ((blk_cell HX4.out 2).trans rfl)
        have p3 := gw bx ((blk_cell HX4.out 3).trans rfl)
        have r0 := gw bb (up HK0.out)
        have r1 := gw bb (up HK1.out)
        have r2 := gw bb (up HK2.out)
        have r3 := gw bb (up HK3.out)
        clear bx bb up
        refine Q.wp_region_segs none [([0, 1, 2, 3, 4, 5, 6, 7, 8, 9, 10, 11, 12, 14, 15, 16, 17], some 13), ([], some 18), ([], some 19), ([20, 21], none)] (by kernel_rfl) (by kernel_rfl) (by kernel_rfl) (by kernel_rfl) ?_
        dsimp only [Q.wpSegs, Q.picks, Q.pick]
        repeat (go_big_quiet_step (fail))
        refine wpQuiet_nil ?_
        clear p0 p1 p2 p3 r0 r1 r2 r3
        go_wp2_with (go_at_call 20; refine (as_any x0 x1 x2 A3 x3.length c3' _).mono ?_; rintro e W5 ⟨rfl, hb5⟩; (have HB5 := Lib.hid hb5); clear hb5)
        refine Q.ev_keep HB5.out (Nat.le_refl _) ?_
        refine wpQuiet_nil ?_
        go_wp2_with (go_at_call 20; refine (as_any x0 x1 x2 Aj x3.length cj W5).mono ?_; rintro e W6 ⟨rfl, hb6⟩; (have HB6 := Lib.hid hb6); clear hb6)
        refine Q.ev_keep HB6.out HB5.out.size ?_
        refine wpQuiet_nil ?_
        have HB46 := Lib.hid (show Below W4.heap.size W4 W6 from (stay0 W4).trans (HB5.out.trans (HB6.out.mono HB5.out.size)))
        have hq := same_yes x0 x1 x2 x3 A3 Aj c3' cj W6 (Kd.C_below (Kd.R_reads' HV4.out).2.2 HB46.out) (Kd.C_below HCj.out (HB4.out.trans (HB46.out.mono HB4.out.size)))
        have HQ3 := Lib.hid hq
        clear hq
        go_wp2_with (go_at_call 19; refine HQ3.out.mono ?_; rintro e W7 ⟨rfl, hb7⟩; (have HB7 := Lib.hid hb7); clear hb7 HQ3)
        refine Q.ev_keep HB7.out (by have := HB5.out.size; have := HB6.out.size; exact Nat.le_trans (show W4.heap.size ≤ W5.heap.size from HB5.out.size) HB6.out.size) ?_
        have HB47 := Lib.hid (HB46.out.trans (HB7.out.mono HB46.out.size))
        have HX7 := Lib.hid (blk_below HX4.out HB47.out)
        have HV7 := Lib.hid (Kd.R_below HV4.out HB47.out)
        have HB17 := Lib.hid (HB4.out.trans (HB47.out.mono HB4.out.size))
        clear HB5 HB6 HB46 HB7 HX4 HV4
        repeat (go_big_quiet_step (fail))
        refine wpQuiet_nil ?_
        refine NoPanic.normal ?_
        have p0 := (blk_cell HX7.out 0).trans rfl
        have p1 := (blk_cell HX7.out 1).trans rfl
        have p2 := (blk_cell HX7.out 2).trans rfl
        have p3 := (blk_cell HX7.out 3).trans rfl
        have HB7w := Lib.hid (HB.out.trans (HB17.out.mono HB.out.size))
        go_wp2_with (at_builtin; refine appk kP (w0 := W1) (W := W7) W1.heap.size W2.heap.size (.tmp 95) (.tmp 97) 24 tP (.agg #[.int .u64 0, .int .i64 0, .int .i64 0, .slice none 0 0]) 48 rfl rfl Try.underlying24 info_P rfl (by show 0 < 4; decide) (by decide) u9 (L.take i) (x0, x1, x2, x3) [.int .u64 x0, .int .i64 x1, .int .i64 x2, .slice A3 x3.length c3'] rfl rfl ⟨[_], _, rfl, rfl, [_], _, rfl, rfl, [_], _, rfl, rfl, _, rfl, R_up HV7.out HB12.out.size⟩ (fun k hk => Nat.lt_of_lt_of_le (Kd.R_lt HR.out k hk) HB2.out.size) (Kd.R_below HR.out HB17.out) HB7w.out HB7w.out.size (by rw [List.length_take]; have := HJ'.out; have := HN.out; omega) ?_; intro v8 w8 hr8 hb8 _; (have HR8 := Lib.hid hr8); (have HB8 := Lib.hid hb8); clear hr8 hb8)
        go_roundg k
        case measure => have := HJ'.out; omega
        case rel => exact ⟨i + 1, by go_num, Lib.hid (by have := HJ'.out; omega), Lib.hid (by rw [HTk.out]; exact HR8.out), HB8⟩
      · have hi : i = L.length := by have := HJ.out; omega
        subst hi
        have hr9 := HR.out
        rw [List.take_length] at hr9
        obtain ⟨A9, c9, rfl, hc9, hC9⟩ := Kd.R_reads hr9
        have hq := join_any L A9 c9 wr hC9 hc9
        rw [HjE.out, HjD.out] at hq
        have HQ4 := Lib.hid hq
        have HBw := Lib.hid (HB1.out.trans (HB.out.mono HB1.out.size))
        clear hq hr9 hc9 hC9 HR HB HB1 HC1 HRt HOk HAt HjE HjD HJ hlt
        go_wp2_with (go_at_call 21; refine HQ4.out.mono ?_; rintro e W2 ⟨v, rfl, hv, hb2⟩; obtain ⟨A2, c2, rfl⟩ := Kd.R_slice hv; (have HV2 := Lib.hid hv); (have HB2 := Lib.hid (HBw.out.trans (hb2.mono HBw.out.size))); clear hv hb2 HQ4)
        have hq := read_any bs B cb W2 (Kd.C_below HBb.out HB2.out) HBc.out HBo.out (by have := HN.out; omega)
        obtain ⟨pp, hpe⟩ : ∃ pp, readR bs = pp := ⟨_, rfl⟩
        obtain ⟨⟨y0, y1, y2, y3⟩, er⟩ := pp
        rw [hpe] at hq
        refine hq.mono ?_
        clear hq
        rintro e W3 ⟨v, rfl, hv, hb3⟩
        obtain ⟨A3, c3, rfl⟩ := Kd.R_slice hv
        simp only [ptV]
        have HV3 := Lib.hid hv
        have HB3 := Lib.hid hb3
        clear hv hb3
        go_wp2_with fail
        refine calls_at fun W4 hW4 => ?_
        have hb4 : Below W3.heap.size W3 W4 := hW4 ▸ (Below.refl _ _).alloc (Nat.le_refl _) _
        have HB4 := Lib.hid (HB3.out.trans (hb4.mono HB3.out.size))
        refine (write_any y0 y1 y2 y3 A3 c3 W4 (Kd.C_below (Kd.R_reads' HV3.out).2.2 hb4)).mono ?_
        clear hW4 hb4
        rintro e W5 ⟨v, rfl, hv, hb5⟩
        obtain ⟨A5, c5, rfl⟩ := Kd.R_slice hv
        have HV5 := Lib.hid hv
        have HB5 := Lib.hid (HB4.out.trans (hb5.mono HB4.out.size))
        clear hv hb5 HV3 HB3 HB4
        have HPe := Lib.hid hpe
        clear hpe
        go_wp2_with fail
        refine (alive_any W5).mono ?_
        rintro e W6 ⟨rfl, hb6⟩
        have HB26 := Lib.hid (HB5.out.trans (hb6.mono HB5.out.size))
        have HB06 := Lib.hid (HB2.out.trans (HB26.out.mono HB2.out.size))
        have q1 := Kd.C_string (P := Try.prog) Try.underlying23 Try.underlying5 Try.underlying9 (c := c2) (Kd.C_below (Kd.R_reads' HV2.out).2.2 HB26.out)
        have q2 := Kd.C_string (P := Try.prog) Try.underlying23 Try.underlying5 Try.underlying9 (c := c) (Kd.C_below HA.out HB06.out)
        have q3 := Kd.C_string (P := Try.prog) Try.underlying23 Try.underlying5 Try.underlying9 (c := c5) (Kd.C_below (Kd.R_reads' HV5.out).2.2 hb6)
        have q4 := Kd.C_string (P := Try.prog) Try.underlying23 Try.underlying5 Try.underlying9 (c := cb) (Kd.C_below HBb.out HB06.out)
        clear hb6
        by_cases he : er = 0
        · subst he
          obtain ⟨w1, w2⟩ := write_read HBo.out HPe.out
          dsimp only at w1 w2
          rw [w2] at q3
          rw [w1, w2]
          have t1 : ((0 : Int) != 0) = false := rfl
          clear w1 w2
          go_wp2_with fail
          go_ret
          exact ⟨rfl, HB06.out⟩
        · have t1 : (er == 0) = false := by rw [beq_eq_false_iff_ne]; exact he
          have t1n : (er != 0) = true := by rw [bne, t1]; rfl
          clear he
          go_wp2_with fail
          go_ret
          exact ⟨rfl, HB06.out⟩
end Go.Proofs.Ythgdbdhonhkkpaa.Fg
