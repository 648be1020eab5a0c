/-
  aes: the document's Turn.
-/
import Derived.Test.YtblnclooobggnaaAw
namespace Go.Proofs.Ytblnclooobggnaa.A
open Go.RowKit Go.Proofs.Ytblnclooobggnaa.L Go.Proofs.Ytblnclooobggnaa.N Go.Proofs.YtblnclooobggnaaW.PrintWords

theorem addK_get' (key b : List Nat) {i : Nat} (hi : i < 16) : (addK key b).getD i 0 = b.getD i 0 ^^^ (WK key).getD (4 * (i / 4) + i % 4) 0 := by
  unfold addK
  rw [g16_get _ hi, show 4 * (i / 4) + i % 4 = i from by omega]
theorem subS_get' (s : List Nat) {i : Nat} (hi : i < 16) : (subS s).getD i 0 = bxv (s.getD (4 * ((i / 4 + i % 4) % 4) + i % 4) 0) := by
  unfold subS
  rw [g16_get _ hi]
  rfl
theorem subS_len (s : List Nat) : (subS s).length = 16 := g16_len _
theorem ix4 {q m : Nat} (hq : q < 4) (hm : m < 4) : (0 : Int) ≤ (q : Int) * 4 + (m : Int) ∧ (q : Int) * 4 + (m : Int) < 16 ∧ ((q : Int) * 4 + (m : Int)).toNat = 4 * q + m ∧ (0 : Int) ≤ 4 * (q : Int) + (m : Int) ∧ 4 * (q : Int) + (m : Int) < 16 ∧ (4 * (q : Int) + (m : Int)).toNat = 4 * q + m := by omega
theorem mod4 {i c m : Nat} (h : (i + c) % 4 = m) : ((i : Int) + (c : Int)).tmod 4 = (m : Int) ∧ ((i : Int) + (c : Int)) % 4 = (m : Int) ∧ m < 4 := by
  refine ⟨by rw [Int.tmod_eq_emod_of_nonneg (by omega)]; omega, by omega, by omega⟩
theorem mod4a {i m : Nat} (h : (i + 1) % 4 = m) : ((i : Int) + 1).tmod 4 = (m : Int) ∧ ((i : Int) + 1) % 4 = (m : Int) ∧ m < 4 := mod4 (c := 1) h
theorem mod4b {i m : Nat} (h : (i + 2) % 4 = m) : ((i : Int) + 2).tmod 4 = (m : Int) ∧ ((i : Int) + 2) % 4 = (m : Int) ∧ m < 4 := mod4 (c := 2) h
theorem mod4c {i m : Nat} (h : (i + 3) % 4 = m) : ((i : Int) + 3).tmod 4 = (m : Int) ∧ ((i : Int) + 3) % 4 = (m : Int) ∧ m < 4 := mod4 (c := 3) h
theorem div16 {i q r : Nat} (hi : i < 16) (hq : i / 4 = q) (hr : i % 4 = r) : (i : Int).tdiv 4 = (q : Int) ∧ (i : Int) / 4 = (q : Int) ∧ (i : Int).tmod 4 = (r : Int) ∧ (i : Int) % 4 = (r : Int) ∧ q < 4 ∧ r < 4 ∧ (q : Int) < 4 ∧ (r : Int) < 4 ∧ (0 : Int) ≤ (q : Int) ∧ (0 : Int) ≤ (r : Int) ∧ (i : Int) < 16 ∧ (0 : Int) ≤ (i : Int) := by
  refine ⟨by rw [Int.tdiv_eq_ediv_of_nonneg (by omega)]; omega, by omega, by rw [Int.tmod_eq_emod_of_nonneg (by omega)]; omega, by omega, by omega, by omega, by omega, by omega, by omega, by omega, by omega, by omega⟩
theorem ixw {rr q : Nat} (hr : rr < 10) (hq : q < 4) : (0 : Int) ≤ 4 * ((rr : Int) + 1) + (q : Int) ∧ 4 * ((rr : Int) + 1) + (q : Int) < 44 ∧ (4 * ((rr : Int) + 1) + (q : Int)).toNat = 4 * (rr + 1) + q ∧ (0 : Int) ≤ 4 * (rr : Int) + 4 + (q : Int) ∧ 4 * (rr : Int) + 4 + (q : Int) < 44 ∧ (4 * (rr : Int) + 4 + (q : Int)).toNat = 4 * (rr + 1) + q := by omega
theorem rnd_get1 (key : List Nat) {r : Nat} (hr : r < 10) (s : List Nat) {i : Nat} (hi : i < 16) : (rnd key r s).getD i 0 =
    (((rmul 2 ((subS s).getD i 0) ^^^ rmul 3 ((subS s).getD (4 * (i / 4) + (i + 1) % 4) 0)) ^^^ (subS s).getD (4 * (i / 4) + (i + 2) % 4) 0) ^^^ (subS s).getD (4 * (i / 4) + (i + 3) % 4) 0) ^^^ (WK key).getD (4 * (4 * r + i / 4) + i % 4) 0 := by
  unfold rnd
  rw [g16_get _ hi, show 4 * (4 * r + i / 4) + i % 4 = 16 * r + i from by omega]
  unfold rowT
  rw [if_pos hr, mixN_get _ (by omega), mixB_ref (rowR_len s (by omega)) (rowR_lt s _) (by omega), rowR_get _ (by omega), rowR_get _ (by omega), rowR_get _ (by omega), rowR_get _ (by omega),
    show 4 * (i / 4) + i % 4 = i from by omega, show (i % 4 + 1) % 4 = (i + 1) % 4 from by omega, show (i % 4 + 2) % 4 = (i + 2) % 4 from by omega, show (i % 4 + 3) % 4 = (i + 3) % 4 from by omega]
theorem rnd_get2 (key : List Nat) {r : Nat} (hr : ¬ r < 10) (s : List Nat) {i : Nat} (hi : i < 16) : (rnd key r s).getD i 0 = (subS s).getD i 0 ^^^ (WK key).getD (4 * (4 * r + i / 4) + i % 4) 0 := by
  unfold rnd
  rw [g16_get _ hi, show 4 * (4 * r + i / 4) + i % 4 = 16 * r + i from by omega]
  unfold rowT
  rw [if_neg hr, rowR_get _ (by omega), show 4 * (i / 4) + i % 4 = i from by omega]
theorem gwC {W0 w : World} {n1 : Nat} {p : Addr} {v : Value} (hb : p.block < n1) (h : W0.cell? p = some v) (hB : Below n1 W0 w) : w.cell? p = some v := (World.cell?_of_block (w := W0) (a := p) (hB.block _ hb)).trans h
theorem C_at16 {w : World} {k : IntKind} {A : Option Addr} {l : List Nat} (h : (Kd.int k).C w A 16 (nat l)) (hl : l.length = 16) : ∃ b off, A = some ⟨b, off, none⟩ ∧ b < w.heap.size ∧ ∀ j, j < 16 → w.cell? ⟨b, off + j, none⟩ = some (.int k (l.getD j 0 : Nat)) := by
  rw [← hl] at h ⊢
  exact B_at h (by omega)
theorem R_C16 {k : IntKind} {e : TypeId} {w : World} {B : Nat} {v : Value} {l : List Nat} (h : (Kd.int k).R e w B (fun _ => True) v (nat l)) (hl : l.length = 16) : ∃ A c, v = .slice A 16 c ∧ 16 ≤ c ∧ (Kd.int k).C w A 16 (nat l) := by
  obtain ⟨A, c, h1, h2, h3⟩ := Kd.R_reads h
  rw [nat_length, hl] at h1 h2 h3
  exact ⟨A, c, h1, h2, h3⟩
theorem lit_b {W w : World} {y : Int} {e : TypeId} (h : W = w.alloc (.cells #[.int .u8 y] e)) : (Kd.int .u8).C W (some ⟨w.heap.size, 0, none⟩) 1 [y] := by
  have hg : W.heap[w.heap.size]? = some (.cells #[.int .u8 y] e (0, 0)) := h ▸ heap_alloc_new w _
  have hR := R_of_blk (k := .u8) (l := [y]) (B := 0) (by simpa using hg) (Nat.zero_le _) (show 1 ≤ maxLen from by decide)
  exact (Kd.R_reads' hR).2.2
theorem turnP_len' (key b : List Nat) : (turnP key b).length = 16 := rnds_len key b 10
set_option maxRecDepth 100000 in
set_option maxHeartbeats 6400000 in
theorem refturn_any (key b : List Nat) (A A1 A2 : Option Addr) (c c1 c2 : Nat) (w : World) (hC : (Kd.int .u8).C w A 16 (nat key)) (hk : key.length = 16) (hk8 : ∀ x ∈ key, x < 256) (hCb : (Kd.int .u8).C w A1 16 (nat b)) (hb : b.length = 16) (hb8 : ∀ x ∈ b, x < 256) (hC2 : (Kd.int .i64).C w A2 256 (nat boxT)) :
    Calls Try.prog 21 #[.slice A 16 c, .slice A1 16 c1, .slice A2 256 c2] w fun e w' => ∃ A' c', e = .returned (.slice A' 16 c') ∧ 16 ≤ c' ∧ (Kd.int .u8).C w' A' 16 (nat (turnP key b)) ∧ Below w.heap.size w w' := by
  have HW := Lib.hid (refwords_any key A A2 c c2 w hC hk hk8 hC2)
  obtain ⟨b1, o1, rfl, hb1, hc1⟩ := C_at16 hCb hb
  rw [← boxT_len] at hC2
  obtain ⟨b2, o2, rfl, hb2, hc2⟩ := B_at hC2 (by rw [boxT_len]; decide)
  rw [boxT_len] at hc2
  have HC1 := Lib.hid hc1
  have HC2 := Lib.hid hc2
  have HLt := Lib.hid (show b1 < w.heap.size ∧ b2 < w.heap.size from ⟨hb1, hb2⟩)
  have HK := Lib.hid (show (∀ x ∈ key, x < 256) ∧ ∀ x ∈ b, x < 256 from ⟨hk8, hb8⟩)
  have HWl := Lib.hid (WK_lt hk8)
  clear hC hC2 hc1 hc2 hb1 hb2 hk hk8 hb hb8 hCb
  go_enter Try.func21, Try.ntmps21
  go_wp2_with (go_at_call 20; refine HW.out.mono ?_; rintro e Wb ⟨vw, rfl, hwd, hbb⟩; (have HWD := Lib.hid hwd); (have HBb := Lib.hid hbb); clear hwd hbb)
  obtain ⟨b7, o7, c7, rfl, hb7, _, hat7⟩ := HWD.out
  have HAt7 := Lib.hid hat7
  obtain ⟨n1, hn1⟩ : ∃ y, Wb.heap.size = y := ⟨_, rfl⟩
  have Hn1 := Lib.hid hn1
  have HLb := Lib.hid (show b7 < n1 ∧ b1 < n1 ∧ b2 < n1 from by have := HLt.out; have := HBb.out.size; omega)
  have HC1b := Lib.hid (fun j (hj : j < 16) => (HBb.out.cell (p := ⟨b1, o1 + j, none⟩) HLt.out.1).trans (HC1.out j hj))
  have HC2b := Lib.hid (fun j (hj : j < 256) => (HBb.out.cell (p := ⟨b2, o2 + j, none⟩) HLt.out.2).trans (HC2.out j hj))
  clear hb7 hat7 hn1 HWD HW HC1 HC2
  go_wp2_with fail
  go_loopg [8, 9] 18 (fun g v8 v9 w' => ∃ i : Nat, v9 = .int .i64 (i : Int) ∧ Hid (i ≤ 16 ∧ 16 < g + i) ∧ Hid ((Kd.int .i64).R tI w' n1 (fun _ => True) v8 (nat ((addK key b).take i))) ∧ Hid (Below n1 Wb w'))
  case atStart => exact ⟨0, rfl, Lib.hid ⟨by omega, by omega⟩, Lib.hid (Kd.R_nil _ _ _ _ _), Lib.hid (Below.refl _ _)⟩
  case round =>
    obtain ⟨i, rfl, HJ, HR, HB⟩ := hrel
    cases gk with
    | zero => have := HJ.out; omega
    | succ g1 =>
      by_cases hi : i < 16
      · have HJ' := Lib.hid (show i < 16 ∧ 16 < (g1 + 1) + i from ⟨hi, HJ.out.2⟩)
        obtain ⟨q, hq⟩ : ∃ y, i / 4 = y := ⟨_, rfl⟩
        obtain ⟨r, hr⟩ : ∃ y, i % 4 = y := ⟨_, rfl⟩
        obtain ⟨d1, d2, d3, d4, q0, r0, q1, r1, q2, r2, z0, z1⟩ := div16 hi hq hr
        obtain ⟨b3, o3, c3, hb3, _, hc3, hk3⟩ := HAt7.out q (by omega)
        have p1 := gwB HLb.out.2.1 (HC1b.out i hi) HB.out
        have p2 := gwB HLb.out.1 hc3 HB.out
        have p3 := gwB (by rw [← Hn1.out]; exact hb3) (hk3 r r0) HB.out
        have hG := addK_get' key b hi
        rw [hq, hr] at hG
        obtain ⟨va, hva⟩ : ∃ y, b.getD i 0 = y := ⟨_, rfl⟩
        obtain ⟨vb, hvb⟩ : ∃ y, (WK key).getD (4 * q + r) 0 = y := ⟨_, rfl⟩
        rw [hva] at p1 hG
        rw [hvb] at p3 hG
        have a8 : va < 256 := by rw [← hva]; exact getD_lt0 (by decide) _ HK.out.2
        have b8 : vb < 256 := by rw [← hvb]; exact getD_lt0 (by decide) _ HWl.out
        have x1 := xor_i64 va vb (by omega) (by omega)
        have y1 : (va : Int) < 256 := by omega
        have hS := nat_snoc (l := addK key b) (j := i) (by rw [show (addK key b).length = 16 from g16_len _]; exact hi)
        rw [hG] at hS
        have HS := Lib.hid hS
        have HL := Lib.hid (show (nat ((addK key b).take i)).length = i from by rw [nat_length, List.length_take, show (addK key b).length = 16 from g16_len _]; omega)
        have HB1 := Lib.hid (show n1 ≤ wr.heap.size from by have := HB.out.size; have := Hn1.out; omega)
        clear hq hr hva hvb a8 b8 hS hG hb3 hc3 hk3 hi HJ q0 r0
        generalize va ^^^ vb = vx at *
        generalize nat ((addK key b).take i) = xs at *
        go_wp2_with fail
        refine Q.wp_region_segsB n1 none [([0, 1, 2, 3, 4, 5, 6, 7, 8, 9, 10, 11, 12, 13, 14, 15], some 16), ([], some 17), ([18], none)] (by kernel_rfl) (by kernel_rfl) (by kernel_rfl) (by kernel_rfl) ?_
        dsimp only [Q.wpSegs, Q.picks, Q.pick]
        repeat (go_big_quiet_step (fail))
        refine wpQuiet_nil ?_
        go_wp2_with fail
        refine ev_keepN ((Below.refl _ _).alloc (Nat.le_refl _) _) HB1.out fun W2 hW2 => ?_
        have HLi := Lib.hid (lit_i (w := wr.drew) hW2)
        have hbw : Below wr.heap.size wr W2 := by rw [hW2]; exact (stay0 wr).alloc (Nat.le_refl _) _
        have HRd := Lib.hid (Kd.R_below HR.out hbw)
        have HBd := Lib.hid (HB.out.trans (hbw.mono HB1.out))
        have HSd := Lib.hid (show n1 ≤ W2.heap.size from Nat.le_trans HB1.out hbw.size)
        clear hW2 hbw
        first | refine wpQuiet_nil ?_ | skip
        go_wp2_with (at_builtin; refine appn (w0 := Wb) .i64 n1 (.tmp 26) (.tmp 42) tSI tI 8 rfl rfl Try.underlying34 info_i (by decide) u8 xs [(vx : Int)] _ 1 1 rfl rfl HRd.out HLi.out HBd.out HSd.out (by have := HL.out; have := HJ'.out; omega) ?_; intro v8 w8 hr8 hb8 hg8; (have HR8 := Lib.hid hr8); (have HB8 := Lib.hid hb8); (have HG8 := Lib.hid hg8); clear hr8 hb8 hg8)
        refine Q.ev_app (gr_own HG8.out (fun k hk => Kd.R_base HRd.out k hk) HSd.out) (Nat.le_refl _) (Q.NewRow.self _ _) ?_
        repeat (go_big_quiet_step (fail))
        refine wpQuiet_nil ?_
        refine NoPanic.normal ?_
        go_wp2_with fail
        go_roundg g1
        case measure => have := HJ'.out; omega
        case rel => exact ⟨i + 1, by go_num, Lib.hid (by have := HJ'.out; omega), Lib.hid (by rw [← HS.out]; exact HR8.out), HB8⟩
      · obtain rfl : i = 16 := by have := HJ.out; omega
        clear hi HJ
        have hr := HR.out
        rw [List.take_of_length_le (by rw [show (addK key b).length = 16 from g16_len _]; exact Nat.le_refl _)] at hr
        obtain ⟨A8, c8, hv8, hc8, hC8⟩ := R_C16 hr (g16_len _)
        subst hv8
        have HC8 := Lib.hid (show (Kd.int .i64).C wr A8 16 (nat (rnds key b 0)) from by rw [rnds]; exact hC8)
        clear hr hc8 hC8 HR
        go_wp2_with fail
        go_loopg [8, 10] 12 (fun g v8 v10 w' => ∃ (rr : Nat) (A8 : Option Addr) (c8 : Nat), v10 = .int .i64 ((rr : Int) + 1) ∧ v8 = .slice A8 16 c8 ∧ Hid (rr ≤ 10 ∧ 10 < g + rr) ∧ Hid ((Kd.int .i64).C w' A8 16 (nat (rnds key b rr))) ∧ Hid (Below n1 Wb w'))
        case atStart => exact ⟨0, A8, c8, rfl, rfl, Lib.hid ⟨by omega, by omega⟩, HC8, HB⟩
        case round =>
          obtain ⟨rr, A9, c9, rfl, rfl, HJ, HC9, HBr⟩ := hrel
          clear HC8 HB
          cases gk with
          | zero => have := HJ.out; omega
          | succ g1 =>
            by_cases hrr : rr < 10
            · have HJr := Lib.hid (show rr < 10 ∧ 10 < (g1 + 1) + rr from ⟨hrr, HJ.out.2⟩)
              have hr1 : (rr : Int) + 1 ≤ 10 := by omega
              have HSl := Lib.hid (rnds_len key b rr)
              have HS8 := Lib.hid (rnds_lt HK.out.1 HK.out.2 rr)
              have HNx := Lib.hid (rnds_succ key b rr)
              generalize rnds key b rr = s at *
              obtain ⟨b9, o9, e9, hb9, hc9⟩ := C_at16 HC9.out HSl.out
              subst e9
              obtain ⟨Wr, hWr⟩ : ∃ W, wr = W := ⟨_, rfl⟩
              have HC9c := Lib.hid (show ∀ j, j < 16 → Wr.cell? ⟨b9, o9 + j, none⟩ = some (.int .i64 (s.getD j 0 : Nat)) from by rw [← hWr]; exact hc9)
              obtain ⟨n2, hn2⟩ : ∃ y, Wr.heap.size = y := ⟨_, rfl⟩
              have Hn2 := Lib.hid hn2
              have HL9 := Lib.hid (show b9 < n2 from by rw [← hn2, ← hWr]; exact hb9)
              have HBr2 := Lib.hid (show Below n1 Wb Wr from by rw [← hWr]; exact HBr.out)
              have Hn12 := Lib.hid (show n1 ≤ n2 from by have := HBr2.out.size; have := Hn1.out; omega)
              rw [hWr]
              clear hWr hn2 hb9 hc9 hrr HJ HC9 HBr
              go_wp2_with fail
              go_loopg [11, 12] 18 (fun g v11 v12 w' => ∃ i : Nat, v12 = .int .i64 (i : Int) ∧ Hid (i ≤ 16 ∧ 16 < g + i) ∧ Hid ((Kd.int .i64).R tI w' n2 (fun _ => True) v11 (nat ((subS s).take i))) ∧ Hid (Below n2 Wr w'))
              case atStart => exact ⟨0, rfl, Lib.hid ⟨by omega, by omega⟩, Lib.hid (Kd.R_nil _ _ _ _ _), Lib.hid (Below.refl _ _)⟩
              case round =>
                obtain ⟨i, rfl, HJ, HR, HB⟩ := hrel
                cases gk with
                | zero => have := HJ.out; omega
                | succ g2 =>
                  by_cases hi : i < 16
                  · have HJ' := Lib.hid (show i < 16 ∧ 16 < (g2 + 1) + i from ⟨hi, HJ.out.2⟩)
                    obtain ⟨q, hq⟩ : ∃ y, i / 4 = y := ⟨_, rfl⟩
                    obtain ⟨r, hr⟩ : ∃ y, i % 4 = y := ⟨_, rfl⟩
                    obtain ⟨d1, d2, d3, d4, q0, r0, q1, r1, q2, r2, z0, z1⟩ := div16 hi hq hr
                    obtain ⟨m, hm⟩ : ∃ y, (q + r) % 4 = y := ⟨_, rfl⟩
                    obtain ⟨e1, e2, m0⟩ := mod4 hm
                    obtain ⟨_, _, _, im1, im2, im3⟩ := ix4 m0 r0
                    have hG := subS_get' s hi
                    rw [hq, hr, hm] at hG
                    have p1 := gwC HL9.out (HC9c.out (4 * m + r) (by omega)) HB.out
                    obtain ⟨va, hva⟩ : ∃ y, s.getD (4 * m + r) 0 = y := ⟨_, rfl⟩
                    rw [hva] at p1 hG
                    have a8 : va < 256 := by rw [← hva]; exact getD_lt0 (by decide) _ HS8.out
                    have p2 := gwC (show b2 < n2 from by have := HLb.out.2.2; have := Hn12.out; omega) (gwC HLb.out.2.2 (HC2b.out va a8) HBr2.out) HB.out
                    rw [show boxT.getD va 0 = bxv va from rfl] at p2
                    have y1 : (va : Int) < 256 := by omega
                    have hS := nat_snoc (l := subS s) (j := i) (by rw [subS_len]; exact hi)
                    rw [hG] at hS
                    have HS := Lib.hid hS
                    have HL := Lib.hid (show (nat ((subS s).take i)).length = i from by rw [nat_length, List.length_take, subS_len]; omega)
                    have HB1 := Lib.hid (show n2 ≤ wr.heap.size from by have := HB.out.size; have := Hn2.out; omega)
                    clear hq hr hm hva a8 hS hG hi HJ q0 r0 m0
                    generalize bxv va = vx at *
                    generalize nat ((subS s).take i) = xs at *
                    go_wp2_with (at_builtin; refine app1 (w0 := Wr) .i64 n2 (.tmp 52) (.tmp 69) tSI tI 8 rfl rfl Try.underlying34 info_i (by decide) u11 xs (vx : Int) rfl rfl HR.out HB.out HB1.out (by have := HL.out; have := HJ'.out; omega) ?_; intro v8 w8 hr8 hb8 _; (have HR8 := Lib.hid hr8); (have HB8 := Lib.hid hb8); clear hr8 hb8)
                    go_roundg g2
                    case measure => have := HJ'.out; omega
                    case rel => exact ⟨i + 1, by go_num, Lib.hid (by have := HJ'.out; omega), Lib.hid (by rw [← HS.out]; exact HR8.out), HB8⟩
                  · obtain rfl : i = 16 := by have := HJ.out; omega
                    clear hi HJ
                    have hr := HR.out
                    rw [List.take_of_length_le (by rw [subS_len]; exact Nat.le_refl _)] at hr
                    obtain ⟨A11, c11, hv11, hc11, hC11⟩ := R_C16 hr (subS_len s)
                    obtain ⟨b11, o11, e11, hb11, hcc11⟩ := C_at16 hC11 (subS_len s)
                    subst e11
                    subst hv11
                    obtain ⟨Wt, hWt⟩ : ∃ W, wr = W := ⟨_, rfl⟩
                    have HCt := Lib.hid (show ∀ j, j < 16 → Wt.cell? ⟨b11, o11 + j, none⟩ = some (.int .i64 ((subS s).getD j 0 : Nat)) from by rw [← hWt]; exact hcc11)
                    obtain ⟨n3, hn3⟩ : ∃ y, Wt.heap.size = y := ⟨_, rfl⟩
                    have Hn3 := Lib.hid hn3
                    have HLt11 := Lib.hid (show b11 < n3 from by rw [← hn3, ← hWt]; exact hb11)
                    have HBt := Lib.hid (show Below n1 Wb Wt from by rw [← hWt]; exact HBr2.out.trans (HB.out.mono Hn12.out))
                    have Hn13 := Lib.hid (show n1 ≤ n3 from by have := HBt.out.size; have := Hn1.out; omega)
                    have HT8 := Lib.hid (subS_lt s)
                    have HG1 := Lib.hid (fun (h : rr + 1 < 10) i (hi : i < 16) => rnd_get1 key h s hi)
                    have HG2 := Lib.hid (fun (h : ¬ rr + 1 < 10) i (hi : i < 16) => rnd_get2 key h s hi)
                    have HRl := Lib.hid (rnd_len key (rr + 1) s)
                    rw [hWt]
                    clear hWt hn3 hb11 hcc11 hr hc11 hC11 HR HB HC9c HL9 HBr2 Hn12 HSl HS8
                    generalize subS s = T at *
                    generalize rnd key (rr + 1) s = U at *
                    go_wp2_with fail
                    go_loopg [13, 14] 18 (fun g v13 v14 w' => ∃ i : Nat, v14 = .int .i64 (i : Int) ∧ Hid (i ≤ 16 ∧ 16 < g + i) ∧ Hid ((Kd.int .i64).R tI w' n3 (fun _ => True) v13 (nat (U.take i))) ∧ Hid (Below n3 Wt w'))
                    case atStart => exact ⟨0, rfl, Lib.hid ⟨by omega, by omega⟩, Lib.hid (Kd.R_nil _ _ _ _ _), Lib.hid (Below.refl _ _)⟩
                    case round =>
                      obtain ⟨i, rfl, HJ, HR, HB⟩ := hrel
                      cases gk with
                      | zero => have := HJ.out; omega
                      | succ g2 =>
                        by_cases hi : i < 16
                        · have HJ' := Lib.hid (show i < 16 ∧ 16 < (g2 + 1) + i from ⟨hi, HJ.out.2⟩)
                          obtain ⟨q, hq⟩ : ∃ y, i / 4 = y := ⟨_, rfl⟩
                          obtain ⟨r, hr⟩ : ∃ y, i % 4 = y := ⟨_, rfl⟩
                          obtain ⟨d1, d2, d3, d4, q0, r0, q1, r1, q2, r2, z0, z1⟩ := div16 hi hq hr
                          obtain ⟨iw1, iw2, iw3, iw4, iw5, iw6⟩ := ixw HJr.out.1 q0
                          have p1 := gwC HLt11.out (HCt.out i hi) HB.out
                          obtain ⟨b3, o3, c3, hb3, _, hc3, hk3⟩ := HAt7.out (4 * (rr + 1) + q) (by omega)
                          have p2 := gwC (show b7 < n3 from by have := HLb.out.1; have := Hn13.out; omega) (gwC HLb.out.1 hc3 HBt.out) HB.out
                          have p3 := gwC (show b3 < n3 from by have := Hn1.out; have := Hn13.out; omega) (gwC (show b3 < n1 from by rw [← Hn1.out]; exact hb3) (hk3 r r0) HBt.out) HB.out
                          obtain ⟨ta, hta⟩ : ∃ y, T.getD i 0 = y := ⟨_, rfl⟩
                          obtain ⟨vb, hvb⟩ : ∃ y, (WK key).getD (4 * (4 * (rr + 1) + q) + r) 0 = y := ⟨_, rfl⟩
                          have g8 : ∀ j, T.getD j 0 < 256 := fun j => getD_lt0 (by decide) j HT8.out
                          have b8 : vb < 256 := by rw [← hvb]; exact getD_lt0 (by decide) _ HWl.out
                          have t8 : ta < 256 := by rw [← hta]; exact g8 _
                          rw [hta] at p1
                          rw [hvb] at p3
                          have hS := nat_snoc (l := U) (j := i) (by rw [HRl.out]; exact hi)
                          have HL := Lib.hid (show (nat (U.take i)).length = i from by rw [nat_length, List.length_take, HRl.out]; omega)
                          have HB1 := Lib.hid (show n3 ≤ wr.heap.size from by have := HB.out.size; have := Hn3.out; omega)
                          have y1 : (ta : Int) < 256 := by omega
                          generalize nat (U.take i) = xs at *
                          by_cases hten : rr + 1 < 10
                          · have hG := HG1.out hten i hi
                            obtain ⟨m1, hm1⟩ : ∃ y, (i + 1) % 4 = y := ⟨_, rfl⟩
                            obtain ⟨m2, hm2⟩ : ∃ y, (i + 2) % 4 = y := ⟨_, rfl⟩
                            obtain ⟨m3, hm3⟩ : ∃ y, (i + 3) % 4 = y := ⟨_, rfl⟩
                            obtain ⟨t1, ht1⟩ : ∃ y, T.getD (4 * q + m1) 0 = y := ⟨_, rfl⟩
                            obtain ⟨t2, ht2⟩ : ∃ y, T.getD (4 * q + m2) 0 = y := ⟨_, rfl⟩
                            obtain ⟨t3, ht3⟩ : ∃ y, T.getD (4 * q + m3) 0 = y := ⟨_, rfl⟩
                            rw [hq, hr, hm1, hm2, hm3, hta, ht1, ht2, ht3, hvb] at hG
                            have u1 : t1 < 256 := by rw [← ht1]; exact g8 _
                            have u2 : t2 < 256 := by rw [← ht2]; exact g8 _
                            have u3 : t3 < 256 := by rw [← ht3]; exact g8 _
                            obtain ⟨e1, e4, n1'⟩ := mod4a hm1
                            obtain ⟨e2, e5, n2'⟩ := mod4b hm2
                            obtain ⟨e3, e6, n3'⟩ := mod4c hm3
                            obtain ⟨it1n0, it1l0, it1t0, it1n1, it1l1, it1t1⟩ := ix4 q0 n1'
                            obtain ⟨it2n0, it2l0, it2t0, it2n1, it2l1, it2t1⟩ := ix4 q0 n2'
                            obtain ⟨it3n0, it3l0, it3t0, it3n1, it3l1, it3t1⟩ := ix4 q0 n3'
                            have x16 : ∀ m, m < 4 → 4 * q + m < 16 := fun m hm => by omega
                            have k1 := gwB (w := wr) HLt11.out (HCt.out (4 * q + m1) (x16 _ n1')) HB.out
                            have k2 := gwB (w := wr) HLt11.out (HCt.out (4 * q + m2) (x16 _ n2')) HB.out
                            have k3 := gwB (w := wr) HLt11.out (HCt.out (4 * q + m3) (x16 _ n3')) HB.out
                            have k0 := gwB (w := wr) HLt11.out (HCt.out i hi) HB.out
                            rw [ht1] at k1
                            rw [ht2] at k2
                            rw [ht3] at k3
                            rw [hta] at k0
                            have HM2 := Lib.hid (fun W => mul_any 2 ta W (by decide) t8)
                            have HM3 := Lib.hid (fun W => mul_any 3 t1 W (by decide) u1)
                            have f2 : rmul 2 ta < 256 := by rw [two_rmul _ t8]; exact dbl_lt t8
                            have f3 : rmul 3 t1 < 256 := by rw [three_rmul _ u1]; exact xor8 (dbl_lt u1) u1
                            generalize rmul 2 ta = xa at *
                            generalize rmul 3 t1 = xb at *
                            have x1 := xor_i64 xa xb (by omega) (by omega)
                            have f4 := xor8 f2 f3
                            generalize xa ^^^ xb = xc at *
                            have x2 := xor_i64 xc t2 (by omega) (by omega)
                            have f5 := xor8 f4 u2
                            generalize xc ^^^ t2 = xd at *
                            have x3 := xor_i64 xd t3 (by omega) (by omega)
                            have f6 := xor8 f5 u3
                            generalize xd ^^^ t3 = xe at *
                            have x4 := xor_i64 xe vb (by omega) (by omega)
                            generalize xe ^^^ vb = vx at *
                            rw [hG] at hS
                            have HS := Lib.hid hS
                            have w1 : (rr : Int) + 1 < 10 := by omega
                            clear hq hr hm1 hm2 hm3 hta ht1 ht2 ht3 hvb g8 b8 t8 u1 u2 u3 f2 f3 f4 f5 f6 hS hG hi HJ q0 r0 hten hb3 hc3 hk3 n1' n2' n3' x16
                            go_wp2_with fail
                            refine Q.wp_region_segsB n3 none [([0, 1, 2, 3, 5, 6, 7, 8, 9, 10, 11, 12, 15, 16, 17, 18, 19, 20, 21, 22, 24, 25, 26, 27, 28, 29, 30, 31], some 4), ([], some 13), ([14, 23, 32, 33], none)] (by kernel_rfl) (by kernel_rfl) (by kernel_rfl) (by kernel_rfl) ?_
                            dsimp only [Q.wpSegs, Q.picks, Q.pick]
                            repeat (go_big_quiet_step (fail))
                            refine wpQuiet_nil ?_
                            clear k0 k1 k2 k3
                            go_wp2_with fail
                            refine (HM2.out _).mono ?_
                            rintro e w7 ⟨rfl, hw7⟩
                            rw [hw7]
                            clear hw7 w7
                            go_wp2_with fail
                            refine Q.ev_keep (Below.refl _ _) HB1.out ?_
                            refine wpQuiet_nil ?_
                            go_wp2_with fail
                            refine (HM3.out _).mono ?_
                            rintro e w7 ⟨rfl, hw7⟩
                            rw [hw7]
                            clear hw7 w7
                            go_wp2_with fail
                            refine Q.ev_keep (Below.refl _ _) HB1.out ?_
                            repeat (go_big_quiet_step (fail))
                            refine wpQuiet_nil ?_
                            refine NoPanic.normal ?_
                            refine exit_at fun Wq hWq => ?_
                            have HRq := Lib.hid (show (Kd.int .i64).R tI Wq n3 (fun _ => True) u13 xs from by rw [hWq]; exact Kd.R_below HR.out (stay0 wr))
                            have HBq := Lib.hid (show Below n3 Wt Wq from by rw [hWq]; exact HB.out.drew)
                            have HSq := Lib.hid (show n3 ≤ Wq.heap.size from by rw [hWq]; exact HB1.out)
                            have hcl : ∀ a, Wq.cell? a = wr.cell? a := fun a => by rw [hWq]; rfl
                            have p2' := (hcl _).trans p2
                            have p3' := (hcl _).trans p3
                            clear hWq hcl p2 p3 p1 e1 e2 e3 e4 e5 e6 it1n0 it1l0 it1t0 it1n1 it1l1 it1t1 it2n0 it2l0 it2t0 it2n1 it2l1 it2t1 it3n0 it3l0 it3t0 it3n1 it3l1 it3t1 x1 x2 x3
                            go_wp2_with (at_builtin; refine app1 (w0 := Wt) .i64 n3 (.tmp 117) (.tmp 132) tSI tI 8 rfl rfl Try.underlying34 info_i (by decide) u13 xs (vx : Int) rfl rfl HRq.out HBq.out HSq.out (by have := HL.out; have := HJ'.out; omega) ?_; intro v8 w8 hr8 hb8 _; (have HR8 := Lib.hid hr8); (have HB8 := Lib.hid hb8); clear hr8 hb8)
                            go_roundg g2
                            case measure => have := HJ'.out; omega
                            case rel => exact ⟨i + 1, by go_num, Lib.hid (by have := HJ'.out; omega), Lib.hid (by rw [← HS.out]; exact HR8.out), HB8⟩
                          · have hG := HG2.out hten i hi
                            rw [hq, hr, hta, hvb] at hG
                            have x4 := xor_i64 ta vb (by omega) (by omega)
                            generalize ta ^^^ vb = vx at *
                            rw [hG] at hS
                            have HS := Lib.hid hS
                            have w1 : ¬ (rr : Int) + 1 < 10 := by omega
                            clear hq hr hta hvb g8 b8 t8 hS hG hi HJ q0 r0 hten hb3 hc3 hk3
                            have HRq := HR
                            have HBq := HB
                            have HSq := HB1
                            go_wp2_with (at_builtin; refine app1 (w0 := Wt) .i64 n3 (.tmp 117) (.tmp 132) tSI tI 8 rfl rfl Try.underlying34 info_i (by decide) u13 xs (vx : Int) rfl rfl HRq.out HBq.out HSq.out (by have := HL.out; have := HJ'.out; omega) ?_; intro v8 w8 hr8 hb8 _; (have HR8 := Lib.hid hr8); (have HB8 := Lib.hid hb8); clear hr8 hb8)
                            go_roundg g2
                            case measure => have := HJ'.out; omega
                            case rel => exact ⟨i + 1, by go_num, Lib.hid (by have := HJ'.out; omega), Lib.hid (by rw [← HS.out]; exact HR8.out), HB8⟩
                        · obtain rfl : i = 16 := by have := HJ.out; omega
                          clear hi HJ
                          have hr := HR.out
                          rw [List.take_of_length_le (by rw [HRl.out]; exact Nat.le_refl _)] at hr
                          obtain ⟨A13, c13, hv13, hc13, hC13⟩ := R_C16 hr HRl.out
                          subst hv13
                          have HC13 := Lib.hid hC13
                          clear hr hc13 hC13 HR
                          go_wp2_with fail
                          go_roundg g1
                          case measure => have := HJr.out; omega
                          case rel => exact ⟨rr + 1, A13, c13, by go_num, rfl, Lib.hid (by have := HJr.out; omega), Lib.hid (by rw [HNx.out]; exact HC13.out), Lib.hid (HBt.out.trans (HB.out.mono Hn13.out))⟩
            · obtain rfl : rr = 10 := by have := HJ.out; omega
              clear hrr HJ
              have HTl := Lib.hid (turnP_len' key b)
              have HT8 := Lib.hid (show ∀ x ∈ turnP key b, x < 256 from rnds_lt HK.out.1 HK.out.2 10)
              have HC9' := Lib.hid (show (Kd.int .i64).C wr A9 16 (nat (turnP key b)) from HC9.out)
              clear HC9
              obtain ⟨T, hT⟩ : ∃ T, turnP key b = T := ⟨_, rfl⟩
              have HTe := Lib.hid hT
              rw [hT] at HTl HT8 HC9'
              clear hT
              obtain ⟨b9, o9, e9, hb9, hc9⟩ := C_at16 HC9'.out HTl.out
              subst e9
              obtain ⟨Wr, hWr⟩ : ∃ W, wr = W := ⟨_, rfl⟩
              have HC9c := Lib.hid (show ∀ j, j < 16 → Wr.cell? ⟨b9, o9 + j, none⟩ = some (.int .i64 (T.getD j 0 : Nat)) from by rw [← hWr]; exact hc9)
              obtain ⟨n2, hn2⟩ : ∃ y, Wr.heap.size = y := ⟨_, rfl⟩
              have Hn2 := Lib.hid hn2
              have HL9 := Lib.hid (show b9 < n2 from by rw [← hn2, ← hWr]; exact hb9)
              have HBr2 := Lib.hid (show Below n1 Wb Wr from by rw [← hWr]; exact HBr.out)
              have HB0 := Lib.hid (show Below w.heap.size w Wr from HBb.out.trans (HBr2.out.mono (by have := HBb.out.size; have := Hn1.out; omega)))
              have Hn02 := Lib.hid (show w.heap.size ≤ n2 from by have := HB0.out.size; have := Hn2.out; omega)
              rw [hWr]
              clear hWr hn2 hb9 hc9 HC9' HBr
              go_wp2_with fail
              go_loopg [17, 18] 18 (fun g v17 v18 w' => ∃ i : Nat, v18 = .int .i64 (i : Int) ∧ Hid (i ≤ 16 ∧ 16 < g + i) ∧ Hid ((Kd.int .u8).R 5 w' n2 (fun _ => True) v17 (nat (T.take i))) ∧ Hid (Below n2 Wr w'))
              case atStart => exact ⟨0, rfl, Lib.hid ⟨by omega, by omega⟩, Lib.hid (Kd.R_nil _ _ _ _ _), Lib.hid (Below.refl _ _)⟩
              case round =>
                obtain ⟨i, rfl, HJ, HR, HB⟩ := hrel
                cases gk with
                | zero => have := HJ.out; omega
                | succ g2 =>
                  by_cases hi : i < 16
                  · have HJ' := Lib.hid (show i < 16 ∧ 16 < (g2 + 1) + i from ⟨hi, HJ.out.2⟩)
                    have z0 : (i : Int) < 16 := by omega
                    have z1 : (0 : Int) ≤ (i : Int) := by omega
                    have p1 := gwC HL9.out (HC9c.out i hi) HB.out
                    obtain ⟨va, hva⟩ : ∃ y, T.getD i 0 = y := ⟨_, rfl⟩
                    rw [hva] at p1
                    have a8 : va < 256 := by rw [← hva]; exact getD_lt0 (by decide) _ HT8.out
                    have y1 : (va : Int) < 256 := by omega
                    have y2 : (va : Int) % 256 = (va : Int) := by omega
                    have y3 : IntKind.u8.wrap (va : Int) = (va : Int) := wraps_u8 _ (by omega) (by omega)
                    have hS := nat_snoc (l := T) (j := i) (by rw [HTl.out]; exact hi)
                    rw [hva] at hS
                    have HS := Lib.hid hS
                    have HL := Lib.hid (show (nat (T.take i)).length = i from by rw [nat_length, List.length_take, HTl.out]; omega)
                    have HB1 := Lib.hid (show n2 ≤ wr.heap.size from by have := HB.out.size; have := Hn2.out; omega)
                    clear hva a8 hS hi HJ
                    generalize nat (T.take i) = xs at *
                    go_wp2_with (at_builtin; refine app1 (w0 := Wr) .u8 n2 (.tmp 139) (.tmp 145) 41 5 1 rfl rfl Try.underlying41 info_u8 (by decide) u17 xs (va : Int) rfl rfl HR.out HB.out HB1.out (by have := HL.out; have := HJ'.out; omega) ?_; intro v8 w8 hr8 hb8 _; (have HR8 := Lib.hid hr8); (have HB8 := Lib.hid hb8); clear hr8 hb8)
                    go_roundg g2
                    case measure => have := HJ'.out; omega
                    case rel => exact ⟨i + 1, by go_num, Lib.hid (by have := HJ'.out; omega), Lib.hid (by rw [← HS.out]; exact HR8.out), HB8⟩
                  · obtain rfl : i = 16 := by have := HJ.out; omega
                    clear hi HJ
                    have hr := HR.out
                    rw [List.take_of_length_le (by rw [HTl.out]; exact Nat.le_refl _)] at hr
                    obtain ⟨A17, c17, hv17, hc17, hC17⟩ := R_C16 hr HTl.out
                    subst hv17
                    have HC17 := Lib.hid hC17
                    have Hc17 := Lib.hid hc17
                    clear hr hc17 hC17 HR
                    go_wp2_with fail
                    go_ret
                    exact ⟨_, _, rfl, Hc17.out, by rw [HTe.out]; exact HC17.out, HB0.out.trans (HB.out.mono Hn02.out)⟩
end Go.Proofs.Ytblnclooobggnaa.A
