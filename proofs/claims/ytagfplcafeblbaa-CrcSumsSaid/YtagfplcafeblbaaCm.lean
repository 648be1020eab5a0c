/-
  crc: the law of sums.
-/
import Derived.Test.YtagfplcafeblbaaCl
namespace Go.Proofs.Ytagfplcafeblbaa.C
open Go.RowKit Go.Proofs.Ytagfplcafeblbaa.L Go.Proofs.YtagfplcafeblbaaW.PrintWords

theorem B2_open {w : World} {A : Option Addr} {L : List (List Int)} (h : (Kd.slice 5 (Kd.int .u8)).C w A L.length L) :
    L.length ≤ 9223372036854775807 ∧ (L = [] ∨ ∃ b off, A = some ⟨b, off, none⟩ ∧ b < w.heap.size ∧ ∀ j, j < L.length → ∃ Aj cj, w.cell? ⟨b, off + j, none⟩ = some (.slice Aj (L.getD j []).length cj) ∧ (Kd.int .u8).C w Aj (L.getD j []).length (L.getD j [])) := by
  refine ⟨h.2.1, ?_⟩
  rcases Nat.eq_zero_or_pos L.length with h0 | h0
  · exact .inl (List.eq_nil_of_length_eq_zero h0)
  · right
    have key : ∀ j, j < L.length → ∃ ad, A = some ad ∧ ∃ Aj cj, w.cell? (ad.add (j * 1 + 0)) = some (.slice Aj (L.getD j []).length cj) ∧ (Kd.int .u8).C w Aj (L.getD j []).length (L.getD j []) := by
      intro j hj
      obtain ⟨ad, c, e, _, ⟨A1, n1, rfl, hn, hA⟩, hc⟩ := Kd.C_get h ([] : List Int) j (by omega) (by omega)
      simp only [Int.toNat_natCast] at hc hn hA
      exact ⟨ad, e, A1, n1, hc 0 _ rfl, hA⟩
    obtain ⟨ad, e, A0, c0, hc, _⟩ := key 0 h0
    obtain ⟨b, off, spot⟩ := ad
    have hs : spot = none := by
      have := World.cell?_spot hc
      simpa [Addr.add] using this
    subst hs
    refine ⟨b, off, e, ?_, ?_⟩
    · have := World.block_lt_of_cell? w _ hc
      rwa [add_at] at this
    · intro j hj
      obtain ⟨ad, e', Aj, cj, hc, hr⟩ := key j hj
      rw [e] at e'
      injection e' with e'
      subst e'
      rw [add_at] at hc
      simp only [Nat.mul_one, Nat.add_zero] at hc
      exact ⟨Aj, cj, hc, hr⟩

set_option maxHeartbeats 3200000 in
set_option maxRecDepth 100000 in
theorem sums_nat (s : Nat) (l : List Nat) (A : Option Addr) (c : Nat) (L : List (List Int)) (A2 : Option Addr) (c2 : Nat) (w : World) (hs : s < 4294967296) (hC : (Kd.int .u8).C w A l.length (natB l)) (hc : l.length ≤ c) (hl : ∀ x ∈ l, x < 256)
    (hC2 : (Kd.slice 5 (Kd.int .u8)).C w A2 L.length L) (hL : ∀ x ∈ L, ∀ y ∈ x, 0 ≤ y ∧ y < 256) :
    Calls Try.prog 6 #[.int .u32 (s : Int), .slice A l.length c, .slice A2 L.length c2] w fun e w' => e = .returned (.bool true) ∧ Below w.heap.size w w' := by
  have HAl := Lib.hid (alive_any w)
  have hm0 := (B_open hC).1
  have hm2 := (B2_open hC2).1
  by_cases h1 : 5000 < l.length
  · have z1 : decide ((5000 : Int) < (l.length : Int)) = true := decide_eq_true (by omega)
    have z0 : (5000 : Int) < (l.length : Int) := by omega
    clear hC hl hC2 hL h1
    go_enter Try.func6, Try.ntmps6
    go_wp2_with fail
    refine HAl.out.mono ?_
    rintro e w1 ⟨rfl, hb⟩
    go_wp2_with fail
    go_ret
    exact ⟨rfl, hb⟩
  have z1 : decide ((5000 : Int) < (l.length : Int)) = false := decide_eq_false (by omega)
  by_cases h2 : 20 < L.length
  · have z2 : decide ((20 : Int) < (L.length : Int)) = true := decide_eq_true (by omega)
    clear hC hl hC2 hL h1 h2
    go_enter Try.func6, Try.ntmps6
    go_wp2_with fail
    refine HAl.out.mono ?_
    rintro e w1 ⟨rfl, hb⟩
    go_wp2_with fail
    go_ret
    exact ⟨rfl, hb⟩
  have z2 : decide ((20 : Int) < (L.length : Int)) = false := decide_eq_false (by omega)
  have HC := Lib.hid hC
  have HC2 := Lib.hid hC2
  have HL := Lib.hid hl
  have HL2 := Lib.hid hL
  have HM := Lib.hid (show l.length ≤ 5000 ∧ L.length ≤ 20 from ⟨by omega, by omega⟩)
  have HSs := Lib.hid hs
  have hs0 := SU_new w
  obtain ⟨W0, hW0⟩ : ∃ W0, W0 = w.alloc (.cells zc tS) := ⟨_, rfl⟩
  rw [← hW0] at hs0
  have hb0 : Below w.heap.size w W0 := hW0 ▸ (Below.refl _ _).alloc (Nat.le_refl _) _
  have HS0 := Lib.hid hs0
  have HB0 := Lib.hid hb0
  have HW0 := Lib.hid hW0
  have hm20 : L.length ≤ 20 := by omega
  clear hC hl hC2 hL h1 h2 hs0 hb0 hW0 HAl
  go_enter Try.func6, Try.ntmps6
  go_wp2_with fail
  clear z1 z2
  refine (show Code.wp Try.prog _ _ _ (w.alloc (.cells zc tS)) from ?_)
  rw [← HW0.out]
  clear HW0
  go_loopg [9, 10, 11] (L.length + 1) (fun gk v9 v10 v11 w' => ∃ (i q : Nat), v9 = .int .u32 q ∧ v10 = .int .u32 q ∧ v11 = .int .i64 i ∧ Hid (i ≤ L.length ∧ L.length < gk + i) ∧ Hid (q < 4294967296) ∧ Hid (SU w.heap.size (i : Int) w') ∧ Hid (Below w.heap.size w w'))
  case atStart => exact ⟨0, s, rfl, rfl, rfl, Lib.hid ⟨by omega, by omega⟩, HSs, HS0, HB0⟩
  case round =>
    obtain ⟨i, q, rfl, rfl, rfl, HJ, HQ, HS, HB⟩ := hrel
    clear HS0 HB0
    cases gk with
    | zero => have := HJ.out; omega
    | succ k =>
      by_cases hlt : i < L.length
      · have HJ' := Lib.hid (show i < L.length ∧ L.length < (k + 1) + i from ⟨hlt, HJ.out.2⟩)
        rcases (B2_open HC2.out).2 with e | ⟨bo, off, rfl, hbo, hcells⟩
        · subst e; simp at hlt
        obtain ⟨Ai, ci, q1, hCi⟩ := hcells i hlt
        obtain ⟨mi, e1, k1, l1, e2⟩ := C_nat hCi (HL2.out _ (by rw [List.getD_eq_getElem?_getD, List.getElem?_eq_getElem hlt]; simp))
        rw [← e1] at q1
        have hmi := (B_open k1).1
        have HK1 := Lib.hid k1
        have HL1 := Lib.hid l1
        have z4 : (i : Int) < (L.length : Int) := by omega
        have z6 : (0 : Int) ≤ (i : Int) := by omega
        have z8 : decide ((i : Int) < (L.length : Int)) = true := decide_eq_true z4
        have r1 : wr.cell? ⟨bo, off + i, none⟩ = some (.slice Ai mi.length ci) := (HB.out.cell (p := ⟨bo, off + i, none⟩) hbo).trans q1
        have HBO := Lib.hid hbo
        clear hcells hCi k1 l1 e1 e2 q1 HJ hbo
        by_cases h3 : 1000 < mi.length
        · have z3 : decide ((1000 : Int) < (mi.length : Int)) = true := decide_eq_true (by omega)
          clear h3
          go_wp2_with fail
          refine (alive_any wr).mono ?_
          rintro e w1 ⟨rfl, hb⟩
          go_wp2_with fail
          go_ret
          exact ⟨rfl, HB.out.trans (hb.mono HB.out.size)⟩
        · have z3 : decide ((1000 : Int) < (mi.length : Int)) = false := decide_eq_false (by omega)
          have q1 : ∀ m : Q.GW wr.drew w.heap.size none, m.w.cell? ⟨bo, off + i, none⟩ = some (.slice Ai mi.length ci) := fun m => ((m.belowB (Nat.le_refl _) (fun _ h => by cases h)).cell (p := ⟨bo, off + i, none⟩) HBO.out).trans r1
          clear h3
          go_wp2_with fail
          refine Q.wp_region_segsB w.heap.size none [([0, 1, 2, 3, 4, 5, 7, 8, 9, 10, 11], some 6), ([], some 12), ([13, 14], none)] (by kernel_rfl) (by kernel_rfl) (by kernel_rfl) (by kernel_rfl) ?_
          dsimp only [Q.wpSegs, Q.picks, Q.pick]
          repeat (go_big_quiet_step (fail))
          refine wpQuiet_nil ?_
          clear q1 r1
          have hne : 0 < mi.length → ∀ ad, Ai = some ad → ad.block ≠ w.heap.size := fun h0 ad ha e => by
            rcases (B_open HK1.out).2 with e1 | ⟨b1, o1, e1, hb1, _⟩
            · subst e1; simp at h0
            · rw [e1] at ha
              injection ha with ha
              rw [← ha] at e
              have e2 : b1 = w.heap.size := e
              omega
          have hq := more_any w.heap.size (i : Int) q mi Ai ci wr.drew (su_drew HS.out) ⟨by omega, by have := HM.out; omega⟩ HQ.out (Kd.C_below HK1.out HB.out.drew) HL1.out hne
          clear hne
          go_wp2_with (go_at_call 22; refine hq.mono ?_; clear hq; rintro e w3 ⟨rfl, hs3, hg3⟩; (have HS3 := Lib.hid hs3); (have HG3 := Lib.hid hg3); clear hs3 hg3)
          refine Q.ev_app (B' := w.heap.size) (row' := none) ⟨HG3.out.os, HG3.out.tape, HG3.out.output, HG3.out.size, fun i hi _ => HG3.out.block i (Nat.lt_of_lt_of_le hi HB.out.size) (fun e => by injection e with e; omega)⟩ (Nat.le_refl _) (Q.NewRow.none_ _ _) ?_
          have HB3 := Lib.hid (HB.out.drew.grown HG3.out HB.out.size (fun k hk => by injection hk with hk; omega))
          clear HG3
          refine wpQuiet_nil ?_
          have hq := rmore_any q mi Ai ci w3 HQ.out (Kd.C_below HK1.out HB3.out) HL1.out
          go_wp2_with (go_at_call 23; refine hq.mono ?_; clear hq; rintro e w4 ⟨rfl, h4⟩; (rw [h4]); clear h4 w4)
          refine Q.ev_keep (Below.refl _ _) HB3.out.size ?_
          have HSl := Lib.hid (sum_lt (s := q) (l := mi) HQ.out HL1.out)
          repeat (go_big_quiet_step (fail))
          refine wpQuiet_nil ?_
          refine NoPanic.normal ?_
          go_wp2_with fail
          go_roundg k
          case measure => have := HJ'.out; omega
          case rel => exact ⟨i + 1, sumN q mi, rfl, rfl, by go_num, Lib.hid (by have := HJ'.out; omega), HSl, HS3, HB3⟩
      · have hi : i = L.length := by have := HJ.out; omega
        have z8 : decide ((i : Int) < (L.length : Int)) = false := decide_eq_false (by omega)
        rw [hi] at HS
        go_wp2_with fail
        refine (bytes_any s wr HSs.out).mono ?_
        rintro e W1 ⟨rfl, hb⟩
        have HB1 := Lib.hid (HB.out.trans (hb.mono HB.out.size))
        have HS1 := Lib.hid (HS.out.keep (hb.block _ HS.out.lt))
        clear hb HS HB
        have hs := HSs.out
        obtain ⟨p0, hp0⟩ : ∃ p, s % 256 = p := ⟨_, rfl⟩
        obtain ⟨p1, hp1⟩ : ∃ p, s / 256 % 256 = p := ⟨_, rfl⟩
        obtain ⟨p2, hp2⟩ : ∃ p, s / 65536 % 256 = p := ⟨_, rfl⟩
        obtain ⟨p3, hp3⟩ : ∃ p, s / 16777216 % 256 = p := ⟨_, rfl⟩
        rw [hp0, hp1, hp2, hp3]
        obtain ⟨a1, ha1⟩ : ∃ p, 256 * p1 = p := ⟨_, rfl⟩
        obtain ⟨a2, ha2⟩ : ∃ p, 65536 * p2 = p := ⟨_, rfl⟩
        obtain ⟨a3, ha3⟩ : ∃ p, 16777216 * p3 = p := ⟨_, rfl⟩
        obtain ⟨b1, hb1⟩ : ∃ p, p0 + a1 = p := ⟨_, rfl⟩
        obtain ⟨b2, hb2⟩ : ∃ p, b1 + a2 = p := ⟨_, rfl⟩
        have h0 : IntKind.u32.wrap (p0 : Int) = p0 := wraps_u32 _ (by omega) (by omega)
        have h1 : IntKind.u32.wrap (p1 : Int) = p1 := wraps_u32 _ (by omega) (by omega)
        have h2 : IntKind.u32.wrap (p2 : Int) = p2 := wraps_u32 _ (by omega) (by omega)
        have h3 : IntKind.u32.wrap (p3 : Int) = p3 := wraps_u32 _ (by omega) (by omega)
        have m1 : IntKind.u32.wrap (256 * (p1 : Int)) = a1 := (wraps_u32 _ (by omega) (by omega)).trans (by omega)
        have m2 : IntKind.u32.wrap (65536 * (p2 : Int)) = a2 := (wraps_u32 _ (by omega) (by omega)).trans (by omega)
        have m3 : IntKind.u32.wrap (16777216 * (p3 : Int)) = a3 := (wraps_u32 _ (by omega) (by omega)).trans (by omega)
        have t1 : IntKind.u32.wrap ((p0 : Int) + (a1 : Int)) = b1 := (wraps_u32 _ (by omega) (by omega)).trans (by omega)
        have t2 : IntKind.u32.wrap ((b1 : Int) + (a2 : Int)) = b2 := (wraps_u32 _ (by omega) (by omega)).trans (by omega)
        have t3 : IntKind.u32.wrap ((b2 : Int) + (a3 : Int)) = s := (wraps_u32 _ (by omega) (by omega)).trans (by omega)
        clear hp0 hp1 hp2 hp3 ha1 ha2 ha3 hb1 hb2 hs
        go_wp2_with fail
        obtain ⟨W2, hW2⟩ : ∃ W2, W2 = (W1.alloc (.cells #[.int .u8 (p0 : Int), .int .u8 (p1 : Int), .int .u8 (p2 : Int), .int .u8 (p3 : Int)] 62)) := ⟨_, rfl⟩
        have HB2 := Lib.hid (show Below w.heap.size w W2 from hW2 ▸ HB1.out.alloc HB1.out.size _)
        have HS2 := Lib.hid (show SU w.heap.size (L.length : Int) W2 from hW2 ▸ HS1.out.keep (Below.heap_alloc _ _ _ HS1.out.lt))
        refine (show Code.wp Try.prog _ _ _ (W1.alloc (.cells #[.int .u8 (p0 : Int), .int .u8 (p1 : Int), .int .u8 (p2 : Int), .int .u8 (p3 : Int)] 62)) from ?_)
        rw [← hW2]
        clear h0 h1 h2 h3 m1 m2 m3 t1 t2 t3 hW2 HB1 HS1
        refine Q.wp_region_segsB w.heap.size none [([], some 0), ([1, 2, 3, 4, 5, 6, 7, 9, 10], some 8), ([11, 12, 13, 14, 16], some 15), ([], some 17), ([18, 19, 20, 21, 22, 23, 25, 26], some 24), ([], some 27), ([28, 29, 30, 31], some 32), ([33, 34, 35, 36, 37, 38, 39, 40, 41, 44], some 42), ([43], some 45), ([46, 47, 48, 49, 50, 52], some 51), ([], some 53), ([54, 55, 56], none)] (by kernel_rfl) (by kernel_rfl) (by kernel_rfl) (by kernel_rfl) ?_
        dsimp only [Q.wpSegs, Q.picks, Q.pick]
        refine wpQuiet_nil ?_
        go_wp2_with (go_at_call 21; refine (alive_any _).mono ?_; rintro e w3 ⟨rfl, hb⟩; (have HB := Lib.hid hb); clear hb)
        refine Q.ev_keep HB.out HB2.out.size ?_
        have HB3 := Lib.hid (HB2.out.drew.trans (HB.out.mono HB2.out.size))
        have HS3 := Lib.hid ((su_drew HS2.out).keep (HB.out.block _ HS2.out.lt))
        clear HB HB2 HS2
        repeat (go_big_quiet_step (fail))
        refine wpQuiet_nil ?_
        have hq := runs_any w.heap.size (L.length : Int) w3 HS3.out
        go_wp2_with (go_at_call 25; refine hq.mono ?_; clear hq; rintro e w4 ⟨rfl, h4⟩; (rw [h4]); clear h4 w4)
        refine Q.ev_keep (Below.refl _ _) HB3.out.size ?_
        clear HS3
        repeat (go_big_quiet_step (fail))
        refine wpQuiet_nil ?_
        have hq := of_any l A c w3 (Kd.C_below HC.out HB3.out) HL.out
        go_wp2_with (go_at_call 26; refine hq.mono ?_; clear hq; rintro e w4 ⟨rfl, hb⟩; (have HB := Lib.hid hb); clear hb)
        refine Q.ev_keep HB.out HB3.out.size ?_
        have HB4 := Lib.hid (HB3.out.trans (HB.out.mono HB3.out.size))
        clear HB HB3
        refine wpQuiet_nil ?_
        have hq := rof_any l A c w4 (Kd.C_below HC.out HB4.out) HL.out
        go_wp2_with (go_at_call 27; refine hq.mono ?_; clear hq; rintro e w5 ⟨rfl, h5⟩; (rw [h5]); clear h5 w5)
        refine Q.ev_keep (Below.refl _ _) HB4.out.size ?_
        repeat (go_big_quiet_step (fail))
        refine wpQuiet_nil ?_
        have hq := more_nil s l A c w4 HSs.out (Kd.C_below HC.out HB4.out) HL.out
        go_wp2_with (go_at_call 22; refine hq.mono ?_; clear hq; rintro e w5 ⟨rfl, hb⟩; (have HB := Lib.hid hb); clear hb)
        refine Q.ev_keep HB.out HB4.out.size ?_
        have HB5 := Lib.hid (HB4.out.trans (HB.out.mono HB4.out.size))
        clear HB HB4
        refine wpQuiet_nil ?_
        have hq := rmore_any s l A c w5 HSs.out (Kd.C_below HC.out HB5.out) HL.out
        go_wp2_with (go_at_call 23; refine hq.mono ?_; clear hq; rintro e w6 ⟨rfl, h6⟩; (rw [h6]); clear h6 w6)
        refine Q.ev_keep (Below.refl _ _) HB5.out.size ?_
        repeat (go_big_quiet_step (fail))
        refine wpQuiet_nil ?_
        have hq := runs_nil w5
        go_wp2_with (go_at_call 25; refine hq.mono ?_; clear hq; rintro e w6 ⟨rfl, h6⟩; (rw [h6]); clear h6 w6)
        refine Q.ev_keep (Below.refl _ _) HB5.out.size ?_
        repeat (go_big_quiet_step (fail))
        refine wpQuiet_nil ?_
        have hq := close_any l A c w5 (Kd.C_below HC.out HB5.out) HL.out (by have := HM.out; omega)
        go_wp2_with (go_at_call 28; refine hq.mono ?_; clear hq; rintro e w6 ⟨v6, rfl, ho6, hb⟩; obtain ⟨A6, c6, rfl, _, hC6⟩ := Kd.R_reads ho6; (have HC6 := Lib.hid hC6); (have HB := Lib.hid hb); clear hb ho6 hC6)
        have HB6 := Lib.hid (HB5.out.trans (HB.out.mono HB5.out.size))
        refine Q.ev_done HB.out HB5.out.size ?_
        clear HB HB5
        have hcv : ∀ n : Q.GW w6 w6.heap.size none, (convert 22 9 (.slice A6 (natB (clN l)).length c6)).run Try.prog n.w = .ok (.string (strOfNums (natB (clN l)))) n.w := fun n => Kd.C_string Try.underlying22 Try.underlying5 Try.underlying9 (Kd.C_below HC6.out n.below)
        repeat (go_big_quiet_step (fail))
        refine wpQuiet_nil ?_
        clear hcv HC6
        have hq := rclose_any l A c w6 (Kd.C_below HC.out HB6.out) HL.out (by have := HM.out; omega)
        go_wp2_with (go_at_call 29; refine hq.mono ?_; clear hq; rintro e w7 ⟨v7, rfl, ho7, hb⟩; obtain ⟨A7, c7, rfl, _, hC7⟩ := Kd.R_reads ho7; (have HC7 := Lib.hid hC7); (have HB := Lib.hid hb); clear hb ho7 hC7)
        have HB7 := Lib.hid (HB6.out.trans (HB.out.mono HB6.out.size))
        refine Q.ev_done HB.out (Nat.le_refl _) ?_
        clear HB HB6
        have hcv : ∀ n : Q.GW w7 w7.heap.size none, (convert 22 9 (.slice A7 (natB (clN l)).length c7)).run Try.prog n.w = .ok (.string (strOfNums (natB (clN l)))) n.w := fun n => Kd.C_string Try.underlying22 Try.underlying5 Try.underlying9 (Kd.C_below HC7.out n.below)
        repeat (go_big_quiet_step (fail))
        refine wpQuiet_nil ?_
        clear hcv HC7
        have hq := ends_any l A c w7 (Kd.C_below HC.out HB7.out) HL.out (by have := HM.out; omega) hc
        go_wp2_with (go_at_call 30; refine hq.mono ?_; clear hq; rintro e w8 ⟨rfl, hb⟩; (have HB := Lib.hid hb); clear hb)
        refine Q.ev_done HB.out (Nat.le_refl _) ?_
        have HB8 := Lib.hid (HB7.out.trans (HB.out.mono HB7.out.size))
        clear HB HB7
        refine wpQuiet_nil ?_
        have hq := rends_any l A c w8 (Kd.C_below HC.out HB8.out) HL.out (by have := HM.out; omega) hc
        go_wp2_with (go_at_call 31; refine hq.mono ?_; clear hq; rintro e w9 ⟨rfl, hb⟩; (have HB := Lib.hid hb); clear hb)
        refine Q.ev_done HB.out (Nat.le_refl _) ?_
        have HB9 := Lib.hid (HB8.out.trans (HB.out.mono HB8.out.size))
        clear HB HB8
        repeat (go_big_quiet_step (fail))
        refine wpQuiet_nil ?_
        refine NoPanic.normal ?_
        go_wp2_with fail
        go_ret
        exact ⟨rfl, HB9.out⟩
theorem sums_walk (s : Int) (l : List Int) (A : Option Addr) (c : Nat) (L : List (List Int)) (A2 : Option Addr) (c2 : Nat) (w : World) (hs : 0 ≤ s ∧ s < 4294967296) (hC : (Kd.int .u8).C w A l.length l) (hc : l.length ≤ c) (hl : ∀ x ∈ l, 0 ≤ x ∧ x < 256)
    (hC2 : (Kd.slice 5 (Kd.int .u8)).C w A2 L.length L) (hL : ∀ x ∈ L, ∀ y ∈ x, 0 ≤ y ∧ y < 256) :
    Calls Try.prog 6 #[.int .u32 s, .slice A l.length c, .slice A2 L.length c2] w fun e w' => e = .returned (.bool true) ∧ Below w.heap.size w w' := by
  obtain ⟨m, e1, k1, l1, _⟩ := C_nat hC hl
  obtain ⟨s, rfl⟩ : ∃ n : Nat, s = (n : Int) := ⟨s.toNat, by omega⟩
  rw [← e1]
  exact sums_nat s m A c L A2 c2 w (by omega) k1 (by omega) l1 hC2 hL
end Go.Proofs.Ytagfplcafeblbaa.C
