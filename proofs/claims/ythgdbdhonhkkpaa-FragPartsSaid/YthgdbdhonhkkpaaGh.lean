/-
  frag: the law of sizes.
-/
import Derived.Test.YthgdbdhonhkkpaaGg
namespace Go.Proofs.Ythgdbdhonhkkpaa.Fg
open Go.RowKit Go.Proofs.Ythgdbdhonhkkpaa.L Go.Proofs.Ythgdbdhonhkkpaa.V Go.Proofs.Ythgdbdhonhkkpaa.N Go.Proofs.YthgdbdhonhkkpaaW.PrintWords

theorem partsZ_get (id : Int) (l : List Int) (c n i : Nat) (h : i < n) : (partsZ id l c n).getD i zP = partZ id l c i := by
  unfold partsZ
  rw [List.getD_eq_getElem?_getD, List.getElem?_map, List.getElem?_range h]
  rfl
set_option maxRecDepth 100000 in
theorem low_i {i q n : Nat} (hi : i < q) (h : (q - 1) * 480 ≤ n) : i * 480 ≤ n := by omega
set_option maxRecDepth 100000 in
theorem low_j {i q n : Nat} (hi : i + 1 < q) (h : (q - 1) * 480 ≤ n) : min ((i + 1) * 480) n - i * 480 = 480 := by omega
/-- the parts of a frame, as a law needs them -/
theorem sp_at {id : Int} {l : List Int} (h : l.length ≤ 24000) (hid : idB id = true) {L : List Pt} (hL : spL id l = L) :
    spE id l = 0 ∧ L.length = cntN l.length ∧ ∀ i, i < L.length → (L.getD i zP).1 = id ∧ (L.getD i zP).2.1 = (i : Int) ∧ (L.getD i zP).2.2.1 = (L.length : Int) ∧ (L.getD i zP).2.2.2 = (l.take (min ((i + 1) * 480) l.length)).drop (i * 480) ∧
      (L.getD i zP).2.2.2.length = min ((i + 1) * 480) l.length - i * 480 ∧ i * 480 ≤ l.length ∧ (i + 1 < L.length → (L.getD i zP).2.2.2.length = 480) := by
  have e1 : L = partsZ id l (cntN l.length) (cntN l.length) := by rw [← hL]; unfold spL; rw [if_neg (by omega), if_pos hid]
  have e2 : L.length = cntN l.length := by rw [e1, partsZ_len]
  refine ⟨by unfold spE; rw [if_neg (by omega), if_pos hid], e2, fun i hi => ?_⟩
  obtain ⟨b1, b2, b3, b4⟩ := cnt_bounds h
  rw [← e2] at b1 b2 b3 b4
  have b5 : i * 480 ≤ l.length := low_i hi b4
  have b6 : i + 1 < L.length → min ((i + 1) * 480) l.length - i * 480 = 480 := fun h2 => low_j h2 b4
  have e3 : L.getD i zP = (id, (i : Int), (L.length : Int), (l.take (min ((i + 1) * 480) l.length)).drop (i * 480)) := by rw [e2]; rw [e1]; rw [e2] at hi; exact partsZ_get id l _ _ i hi
  rw [e3]
  dsimp only
  have e4 : ((l.take (min ((i + 1) * 480) l.length)).drop (i * 480)).length = min ((i + 1) * 480) l.length - i * 480 := by
    rw [List.length_drop, List.length_take]; omega
  exact ⟨rfl, rfl, rfl, rfl, e4, b5, fun hi2 => e4.trans (b6 hi2)⟩
theorem count_mono {n m : Int} (h0 : 0 ≤ n) (h1 : n ≤ m) (h2 : m ≤ 24000) : countZ n ≤ countZ m ∧ m ≤ countZ m * 480 ∧ 0 ≤ countZ m ∧ countZ m ≤ 50 := by
  rw [show countZ n = if n ≤ 480 then 1 else (n + 479) / 480 from if_neg (by omega), show countZ m = if m ≤ 480 then 1 else (m + 479) / 480 from if_neg (by omega)]
  refine ⟨?_, ?_, ?_, ?_⟩
  · split <;> split <;> omega
  · split <;> omega
  · split <;> omega
  · split <;> omega
set_option maxRecDepth 100000 in
set_option maxHeartbeats 3200000 in
theorem sizes_walk (id : Int) (l : List Int) (A : Option Addr) (c : Nat) (n m : Int) (w : World) (hC : (Kd.int .u8).C w A l.length l) (hc : l.length ≤ c) :
    Calls Try.prog 4 #[.int .u64 id, .slice A l.length c, .int .i64 n, .int .i64 m] w fun e w' => e = .returned (.bool true) ∧ Below w.heap.size w w' := by
  have hmx := Kd.C_max hC
  by_cases hg0 : 24000 < l.length
  · have HAl := Lib.hid (alive_any w)
    have tg_l : decide ((24000 : Int) < (l.length : Int)) = true := decide_eq_true (by omega)
    clear hC hc hg0
    go_enter Try.func4, Try.ntmps4
    go_wp2_with fail
    refine HAl.out.mono ?_
    rintro e w1 ⟨rfl, hb⟩
    go_wp2_with fail
    go_ret
    exact ⟨rfl, hb⟩
  have tg_l : decide ((24000 : Int) < (l.length : Int)) = false := decide_eq_false (by omega)
  by_cases hg1 : id < 1
  · have HAl := Lib.hid (alive_any w)
    have tl_id : decide (id < 1) = true := decide_eq_true (by omega)
    clear hC hc hg0 hg1
    go_enter Try.func4, Try.ntmps4
    go_wp2_with fail
    refine HAl.out.mono ?_
    rintro e w1 ⟨rfl, hb⟩
    go_wp2_with fail
    go_ret
    exact ⟨rfl, hb⟩
  have tl_id : decide (id < 1) = false := decide_eq_false (by omega)
  by_cases hg2 : 4611686018427387903 < id
  · have HAl := Lib.hid (alive_any w)
    have tr_id : decide (4611686018427387903 < id) = true := decide_eq_true (by omega)
    clear hC hc hg0 hg1 hg2
    go_enter Try.func4, Try.ntmps4
    go_wp2_with fail
    refine HAl.out.mono ?_
    rintro e w1 ⟨rfl, hb⟩
    go_wp2_with fail
    go_ret
    exact ⟨rfl, hb⟩
  have tr_id : decide (4611686018427387903 < id) = false := decide_eq_false (by omega)
  obtain ⟨L, hL⟩ : ∃ L, spL id l = L := ⟨_, rfl⟩
  obtain ⟨e0, e1, hat⟩ := sp_at (id := id) (l := l) (by omega) (decide_eq_true ⟨by omega, by omega⟩) hL
  have hq := split_any id l A c w hC hc
  rw [hL, e0] at hq
  obtain ⟨b1, b2, b3, b4⟩ := cnt_bounds (show l.length ≤ 24000 by omega)
  rw [← e1] at b1 b2 b3 b4
  have HQ := Lib.hid hq
  have HAt := Lib.hid hat
  have HN := Lib.hid (show 1 ≤ L.length ∧ L.length ≤ 50 ∧ l.length ≤ L.length * 480 ∧ (L.length - 1) * 480 ≤ l.length ∧ l.length ≤ 24000 from ⟨b1, b2, b3, b4, by omega⟩)
  have z1 : (L.length : Int) ≤ 50 := by omega
  have z2 : (l.length : Int) ≤ 24000 := by omega
  have z3 : decide ((L.length : Int) ≤ 64) = true := decide_eq_true (by omega)
  have z3n : decide (L.length ≤ 64) = true := decide_eq_true (by omega)
  have z4 : (1 : Int) ≤ (L.length : Int) := by omega
  clear hC hc hL e0 e1 hat hq b1 b2 b3 b4 hg0 hg1 hg2
  go_enter Try.func4, Try.ntmps4
  go_wp2_with (go_at_call 17; refine HQ.out.mono ?_; rintro e W1 ⟨v, rfl, hv, hb1⟩; obtain ⟨A1, c1, rfl, hc1, hC1⟩ := Kd.R_reads hv; (have HC1 := Lib.hid hC1); (have HB1 := Lib.hid hb1); clear hv hc1 hC1 hb1 HQ)
  go_loopg [11, 12] (L.length + 1) (fun g v11 v12 w' => ∃ i : Nat, v12 = .int .i64 i ∧ v11 = .int .i64 ((min (i * 480) l.length : Nat) : Int) ∧ Hid (i ≤ L.length ∧ L.length < g + i) ∧ Hid (Below W1.heap.size W1 w'))
  case atStart => exact ⟨0, rfl, by simp, Lib.hid ⟨by omega, by omega⟩, Lib.hid (Below.refl _ _)⟩
  case round =>
    obtain ⟨i, rfl, rfl, HJ, HB⟩ := hrel
    cases gk with
    | zero => have := HJ.out; omega
    | succ k =>
      by_cases hlt : i < L.length
      · have HJ' := Lib.hid (show i < L.length ∧ L.length < (k + 1) + i from ⟨hlt, HJ.out.2⟩)
        have hop := (P_open HC1.out).2.resolve_left (fun h => by rw [h] at hlt; simp at hlt)
        obtain ⟨b, off, rfl, hbl, hcells⟩ := hop
        obtain ⟨c0, c1', c2, Aj, cj, c3, _, _⟩ := hcells i hlt
        obtain ⟨p0, p1, p2, _, p4, p5, p6⟩ := HAt.out i hlt
        rw [p0] at c0
        rw [p1] at c1'
        rw [p2] at c2
        obtain ⟨dl, hdl⟩ : ∃ dl, (L.getD i zP).2.2.2.length = dl := ⟨_, rfl⟩
        rw [hdl] at c3 p4 p6
        have c0 := (HB.out.cell (p := ⟨b, off + i * 4, none⟩) hbl).trans c0
        have c1' := (HB.out.cell (p := ⟨b, off + i * 4 + 1, none⟩) hbl).trans c1'
        have c2 := (HB.out.cell (p := ⟨b, off + i * 4 + 2, none⟩) hbl).trans c2
        have c3 := (HB.out.cell (p := ⟨b, off + i * 4 + 3, none⟩) hbl).trans c3
        obtain ⟨ac, hac⟩ : ∃ ac, min (i * 480) l.length = ac := ⟨_, rfl⟩
        have hac2 : ac + dl = min ((i + 1) * 480) l.length := by omega
        rw [hac]
        have HAc := Lib.hid hac2
        have z5 : (ac : Int) + (dl : Int) ≤ 24000 := by omega
        have z6 : (0 : Int) ≤ (ac : Int) := by omega
        have z7 : (0 : Int) ≤ (i : Int) := by omega
        have z8 : (i : Int) < (L.length : Int) := by omega
        by_cases hla : i + 1 < L.length
        · obtain rfl : 480 = dl := (p6 hla).symm
          have t1 : decide ((i : Int) < (L.length : Int) - 1) = true := decide_eq_true (by omega)
          clear p0 p1 p2 p4 p5 p6 hdl hbl hcells HJ hlt hla hac hac2
          go_wp2_with fail
          go_roundg k
          case measure => have := HJ'.out; omega
          case rel => exact ⟨i + 1, by go_num, by rw [← HAc.out]; go_num, Lib.hid (by have := HJ'.out; omega), HB⟩
        · have t1 : decide ((i : Int) < (L.length : Int) - 1) = false := decide_eq_false (by omega)
          clear p0 p1 p2 p4 p5 p6 hdl hbl hcells HJ hlt hla hac hac2
          go_wp2_with fail
          go_roundg k
          case measure => have := HJ'.out; omega
          case rel => exact ⟨i + 1, by go_num, by rw [← HAc.out]; go_num, Lib.hid (by have := HJ'.out; omega), HB⟩
      · have hi : i = L.length := by have := HJ.out; omega
        subst hi
        rw [show min (L.length * 480) l.length = l.length from by have := HN.out; omega]
        have HBw := Lib.hid (HB1.out.trans (HB.out.mono HB1.out.size))
        clear HJ HAt HC1 HB HB1 hlt
        by_cases q0 : 0 ≤ n
        · have u0 : decide (0 ≤ n) = true := decide_eq_true q0
          by_cases q1 : n ≤ m
          · have u1 : decide (n ≤ m) = true := decide_eq_true q1
            by_cases q2 : m ≤ 24000
            · have u2 : decide (m ≤ 24000) = true := decide_eq_true q2
              obtain ⟨m1, m2, m3, m4⟩ := count_mono q0 q1 q2
              obtain ⟨cn, hcn⟩ : ∃ x, countZ n = x := ⟨_, rfl⟩
              obtain ⟨cm, hcm⟩ : ∃ x, countZ m = x := ⟨_, rfl⟩
              rw [hcn, hcm] at m1
              rw [hcm] at m2 m3 m4
              have u3 : decide (cm < cn) = false := decide_eq_false (by omega)
              have u4 : decide (cm * 480 < m) = false := decide_eq_false (by omega)
              have Hcn := Lib.hid hcn
              have Hcm := Lib.hid hcm
              clear q0 q1 q2 m1 m2 hcn hcm
              go_wp2_with (first
                | (go_at_call 15; refine (alive_any _).mono ?_; rintro e w5 ⟨rfl, hb5⟩; (have HB5 := Lib.hid hb5); clear hb5)
                | (go_at_call 23; with_reducible refine (count_any n _).mono ?_; rintro e w1 ⟨rfl, hw1⟩; (rw [hw1, Hcn.out]); clear hw1 w1)
                | (go_at_call 23; with_reducible refine (count_any m _).mono ?_; rintro e w1 ⟨rfl, hw1⟩; (rw [hw1, Hcm.out]); clear hw1 w1))
              go_ret
              exact ⟨rfl, HBw.out.trans (HB5.out.mono HBw.out.size)⟩
            · have u2 : decide (m ≤ 24000) = false := decide_eq_false q2
              clear q0 q1 q2
              go_wp2_with (first
                | (go_at_call 15; refine (alive_any _).mono ?_; rintro e w5 ⟨rfl, hb5⟩; (have HB5 := Lib.hid hb5); clear hb5))
              go_ret
              exact ⟨rfl, HBw.out.trans (HB5.out.mono HBw.out.size)⟩
          · have u1 : decide (n ≤ m) = false := decide_eq_false q1
            clear q0 q1
            go_wp2_with (first
              | (go_at_call 15; refine (alive_any _).mono ?_; rintro e w5 ⟨rfl, hb5⟩; (have HB5 := Lib.hid hb5); clear hb5))
            go_ret
            exact ⟨rfl, HBw.out.trans (HB5.out.mono HBw.out.size)⟩
        · have u0 : decide (0 ≤ n) = false := decide_eq_false q0
          clear q0
          go_wp2_with (first
            | (go_at_call 15; refine (alive_any _).mono ?_; rintro e w5 ⟨rfl, hb5⟩; (have HB5 := Lib.hid hb5); clear hb5))
          go_ret
          exact ⟨rfl, HBw.out.trans (HB5.out.mono HBw.out.size)⟩
end Go.Proofs.Ythgdbdhonhkkpaa.Fg
