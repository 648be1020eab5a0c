/-
  Parts of one proof, joined: sha: the document's into. | sha: the document's carried and mul. | sha: the document's under. | sha: the document's root and Constants. | sha: the document's With.
-/
import Derived.Test.YtblnclooobggnaaZB0
import Derived.Test.YtblnclooobggnaaZB3
import Derived.Test.YtblnclooobggnaaZB4
import Derived.Test.YtblnclooobggnaaZD0

namespace Go.Proofs.Ytblnclooobggnaa.H
open Go.RowKit Go.Proofs.Ytblnclooobggnaa.L Go.Proofs.Ytblnclooobggnaa.N Go.Proofs.YtblnclooobggnaaW.PrintWords

theorem list8 {l : List Nat} (h : l.length = 8) : ∃ a b c d e f g i, l = [a, b, c, d, e, f, g, i] := by
  match l, h with
  | [a, b, c, d, e, f, g, i], _ => exact ⟨a, b, c, d, e, f, g, i, rfl⟩
theorem rrnd_len (v : List Nat) (k x : Nat) : (rrnd v k x).length = 8 := rfl
theorem rrounds_len {w v : List Nat} (h : v.length = 8) : ∀ i, (rrounds w i v).length = 8
  | 0 => h
  | _ + 1 => rfl
theorem rrnd_lt {v : List Nat} (k x : Nat) (h : ∀ y ∈ v, y < 4294967296) : ∀ y ∈ rrnd v k x, y < 4294967296 := by
  rw [rrnd_eq k x h]
  exact rnd_lt k x h
theorem rrounds_lt {w v : List Nat} (h : ∀ y ∈ v, y < 4294967296) : ∀ i, ∀ y ∈ rrounds w i v, y < 4294967296
  | 0 => h
  | i + 1 => rrnd_lt _ _ (rrounds_lt h i)
theorem into_t (v4 v5 v6 v7 k x : Nat) (h4 : v4 < 4294967296) (h5 : v5 < 4294967296) (h6 : v6 < 4294967296) : ∃ x1 x2 s1 y1 ne y2 y3 s2 s3 s4 : Nat, bits .xor .u32 ((rot v4 6 : Nat) : Int) ((rot v4 11 : Nat) : Int) = (x1 : Int) ∧ bits .xor .u32 (x1 : Int) ((rot v4 25 : Nat) : Int) = (x2 : Int) ∧ IntKind.u32.wrap ((v7 : Int) + (x2 : Int)) = (s1 : Int) ∧ bits .and .u32 (v4 : Int) (v5 : Int) = (y1 : Int) ∧ (4294967295 : Int) - (v4 : Int) = (ne : Int) ∧ bits .and .u32 (ne : Int) (v6 : Int) = (y2 : Int) ∧ bits .xor .u32 (y1 : Int) (y2 : Int) = (y3 : Int) ∧ IntKind.u32.wrap ((s1 : Int) + (y3 : Int)) = (s2 : Int) ∧ IntKind.u32.wrap ((s2 : Int) + (k : Int)) = (s3 : Int) ∧ IntKind.u32.wrap ((s3 : Int) + (x : Int)) = (s4 : Int) ∧ s4 < 4294967296 ∧ s4 = add32 (add32 (add32 (add32 v7 (bs1 v4)) ((v4 &&& v5) ^^^ ((4294967295 - v4) &&& v6))) k) x :=
  ⟨_, _, _, _, 4294967295 - v4, _, _, _, _, _, xor_u32 _ _ (rot_lt (by decide) h4) (rot_lt (by decide) h4), xor_u32 _ _ (xor_lt32 (rot_lt (by decide) h4) (rot_lt (by decide) h4)) (rot_lt (by decide) h4), add_rule _ _, and_u32 _ _ h4 h5, by omega, and_u32 _ _ (by omega) h6, xor_u32 _ _ (and_lt32 h5) (and_lt32 h6), add_rule _ _, add_rule _ _, add_rule _ _, add32_lt _ _, rfl⟩
theorem into_u (v0 v1 v2 : Nat) (h0 : v0 < 4294967296) (h1 : v1 < 4294967296) (h2 : v2 < 4294967296) : ∃ x1 x2 y1 y2 y3 y4 y5 s1 : Nat, bits .xor .u32 ((rot v0 2 : Nat) : Int) ((rot v0 13 : Nat) : Int) = (x1 : Int) ∧ bits .xor .u32 (x1 : Int) ((rot v0 22 : Nat) : Int) = (x2 : Int) ∧ bits .and .u32 (v0 : Int) (v1 : Int) = (y1 : Int) ∧ bits .and .u32 (v0 : Int) (v2 : Int) = (y2 : Int) ∧ bits .xor .u32 (y1 : Int) (y2 : Int) = (y3 : Int) ∧ bits .and .u32 (v1 : Int) (v2 : Int) = (y4 : Int) ∧ bits .xor .u32 (y3 : Int) (y4 : Int) = (y5 : Int) ∧ IntKind.u32.wrap ((x2 : Int) + (y5 : Int)) = (s1 : Int) ∧ s1 < 4294967296 ∧ s1 = add32 (bs0 v0) ((v0 &&& v1) ^^^ (v0 &&& v2) ^^^ (v1 &&& v2)) :=
  ⟨_, _, _, _, _, _, _, _, xor_u32 _ _ (rot_lt (by decide) h0) (rot_lt (by decide) h0), xor_u32 _ _ (xor_lt32 (rot_lt (by decide) h0) (rot_lt (by decide) h0)) (rot_lt (by decide) h0), and_u32 _ _ h0 h1, and_u32 _ _ h0 h2, xor_u32 _ _ (and_lt32 h1) (and_lt32 h2), and_u32 _ _ h1 h2, xor_u32 _ _ (xor_lt32 (and_lt32 h1) (and_lt32 h2)) (and_lt32 h2), add_rule _ _, add32_lt _ _, rfl⟩
theorem zip_len {a b : List Nat} (ha : a.length = 8) (hb : b.length = 8) : (List.zipWith add32 a b).length = 8 := by rw [List.length_zipWith, ha, hb]; rfl
theorem zip_get {a b : List Nat} {i : Nat} (ha : i < a.length) (hb : i < b.length) : (List.zipWith add32 a b).getD i 0 = add32 (a.getD i 0) (b.getD i 0) := by
  rw [List.getD_eq_getElem?_getD, List.getElem?_zipWith, List.getElem?_eq_getElem ha, List.getElem?_eq_getElem hb]
  simp [List.getD_eq_getElem?_getD, List.getElem?_eq_getElem ha, List.getElem?_eq_getElem hb]
theorem below_nil {w w1 : World} (h : w.grownBy w1 (Value.slice none 0 0).ownBlock) : Below w.heap.size w w1 := (Below.refl _ _).grown h (Nat.le_refl _) (fun k hk => by cases hk)
set_option maxRecDepth 100000 in
set_option maxHeartbeats 12800000 in
theorem rinto_any (s bl : List Nat) (As Ab Ak : Option Addr) (cs cb ck : Nat) (w : World) (hS : (Kd.int .u32).C w As 8 (nat s)) (hs : s.length = 8) (hsl : ∀ x ∈ s, x < 4294967296) (hB : (Kd.int .u8).C w Ab 64 (nat bl)) (hb : bl.length = 64) (hb8 : ∀ x ∈ bl, x < 256) (hK : (Kd.int .u32).C w Ak 64 (nat kN)) :
    Calls Try.prog 81 #[.slice As 8 cs, .slice Ab 64 cb, .slice Ak 64 ck] w fun e w' => ∃ v, e = .returned v ∧ (Kd.int .u32).R 45 w' w.heap.size (fun _ => True) v (nat (mixN s bl)) ∧ Below w.heap.size w w' := by
  have HWd := Lib.hid (rwords_any bl Ab cb w hB hb hb8)
  have HS := Lib.hid hS
  have HSl := Lib.hid hsl
  have HSn := Lib.hid hs
  have HEq := Lib.hid (rinto_eq bl hsl)
  have HVl := Lib.hid (fun i => rrounds_len (w := rW bl) hs i)
  have HVt := Lib.hid (fun i => rrounds_lt (w := rW bl) hsl i)
  have hWt : ∀ i, i < 64 → (rW bl).getD i 0 < 4294967296 := fun i hi => getD_lt (by rw [rW_length]; exact hi) (extW_lt (w16_lt hb8) 48)
  have HWt := Lib.hid hWt
  have HKt := Lib.hid (show ∀ i, i < 64 → kN.getD i 0 < 4294967296 from by decide)
  have HWl := Lib.hid (rW_length bl)
  have HRr := Lib.hid (fun i => show rrounds (rW bl) (i + 1) s = rrnd (rrounds (rW bl) i s) (kN.getD i 0) ((rW bl).getD i 0) from rfl)
  have HMx := Lib.hid (show rinto s bl = List.zipWith add32 (rrounds (rW bl) 64 s) s from rfl)
  have HR0 := Lib.hid (show rrounds (rW bl) 0 s = s from rfl)
  have hK' : (Kd.int .u32).C w Ak kN.length (nat kN) := hK
  obtain ⟨bk, ok, rfl, hbk, hck⟩ := B_at hK' (by decide)
  have HCk := Lib.hid (fun j (hj : j < 64) W (hW : Below w.heap.size w W) => pw_cell_below hW (hck j hj))
  rw [← hs] at hS
  obtain ⟨bs, os, rfl, hbs, hcs⟩ := B_at hS (by rw [hs]; decide)
  have HCs := Lib.hid (fun j (hj : j < 8) W (hW : Below w.heap.size w W) => pw_cell_below hW (hcs j (by rw [hs]; exact hj)))
  have HLt := Lib.hid (show bk < w.heap.size ∧ bs < w.heap.size from ⟨hbk, hbs⟩)
  generalize rW bl = WW at *
  clear hS hs hsl hB hb hb8 hK hK' hck hbk hbs hcs hWt
  go_enter Try.func81, Try.ntmps81
  go_wp2_with fail
  refine HWd.out.mono ?_
  rintro e w1 ⟨v7, rfl, hr7, hb7⟩
  obtain ⟨g7, c7, hv7, hc7, hg7, hl7⟩ := R_openK hr7 (by rw [HWl.out]; decide)
  rw [HWl.out] at hv7
  subst hv7
  have HR7 := Lib.hid hr7
  have HB1 := Lib.hid hb7
  have HL7 := Lib.hid hl7
  clear hr7 hb7 hc7 hg7 hl7 HWd
  go_wp2_with (at_builtin; refine appn (w0 := w) .u32 w.heap.size (.tmp 17) (.tmp 18) 112 45 4 rfl rfl Try.underlying112 info_w32 (by decide) (.slice none 0 0) [] (nat s) (some ⟨bs, os, none⟩) 8 cs rfl rfl (Kd.R_nil _ _ _ _ _) (Kd.C_below HS.out HB1.out) HB1.out HB1.out.size (by simp) ?_; intro v8 w8 hr8 hb8 hg8; (have HR8 := Lib.hid hr8); (have HB8 := Lib.hid hb8); (have HG8 := Lib.hid hg8); clear hr8 hb8 hg8)
  have HRv := Lib.hid (show (Kd.int .u32).R 45 w8 w.heap.size (fun _ => True) v8 (nat (rrounds WW 0 s)) from by rw [HR0.out]; simpa using HR8.out)
  have HB18 := Lib.hid (show Below w1.heap.size w1 w8 from below_nil HG8.out)
  have HR7x := Lib.hid HR7.out
  clear HR8 HG8 HR7 HS
  go_loopg [8, 9] 65 (fun g v8 v9 w' => ∃ i : Nat, v9 = .int .i64 (i : Int) ∧ Hid (i ≤ 64 ∧ 64 < g + i) ∧ Hid ((Kd.int .u32).R 45 w' w.heap.size (fun _ => True) v8 (nat (rrounds WW i s))) ∧ Hid (Below w1.heap.size w1 w'))
  case atStart => exact ⟨0, rfl, Lib.hid ⟨by omega, by omega⟩, HRv, HB18⟩
  case round =>
    obtain ⟨i, rfl, HJ, HR, HB⟩ := hrel
    clear HRv HB18 HB8
    have hvl := HVl.out i
    obtain ⟨gv, cv, hv8, hcv, hgv, hlv⟩ := R_openK HR.out (by omega)
    rw [hvl] at hv8
    subst hv8
    cases gk with
    | zero => have := HJ.out; omega
    | succ k =>
      by_cases hlt : i < 64
      · have HJ' := Lib.hid (show i < 64 ∧ 64 < (k + 1) + i from ⟨hlt, HJ.out.2⟩)
        have hbw : Below w.heap.size w wr := HB1.out.trans (HB.out.mono HB1.out.size)
        have HBw := Lib.hid hbw
        have hr := HR.out
        obtain ⟨v0, v1, v2, v3, v4, v5, v6, v7, hV⟩ := list8 hvl
        have hvt := HVt.out i
        have hrr := HRr.out i
        rw [hV] at hr hvt hrr
        have p0 : wr.cell? ⟨gv, 0, none⟩ = some (.int .u32 (v0 : Int)) := (R_atK hr (j := 0) (show 0 < 8 by decide)).1
        have l0 : v0 < 4294967296 := hvt _ (by simp)
        have p1 : wr.cell? ⟨gv, 1, none⟩ = some (.int .u32 (v1 : Int)) := (R_atK hr (j := 1) (show 1 < 8 by decide)).1
        have l1 : v1 < 4294967296 := hvt _ (by simp)
        have p2 : wr.cell? ⟨gv, 2, none⟩ = some (.int .u32 (v2 : Int)) := (R_atK hr (j := 2) (show 2 < 8 by decide)).1
        have l2 : v2 < 4294967296 := hvt _ (by simp)
        have p3 : wr.cell? ⟨gv, 3, none⟩ = some (.int .u32 (v3 : Int)) := (R_atK hr (j := 3) (show 3 < 8 by decide)).1
        have l3 : v3 < 4294967296 := hvt _ (by simp)
        have p4 : wr.cell? ⟨gv, 4, none⟩ = some (.int .u32 (v4 : Int)) := (R_atK hr (j := 4) (show 4 < 8 by decide)).1
        have l4 : v4 < 4294967296 := hvt _ (by simp)
        have p5 : wr.cell? ⟨gv, 5, none⟩ = some (.int .u32 (v5 : Int)) := (R_atK hr (j := 5) (show 5 < 8 by decide)).1
        have l5 : v5 < 4294967296 := hvt _ (by simp)
        have p6 : wr.cell? ⟨gv, 6, none⟩ = some (.int .u32 (v6 : Int)) := (R_atK hr (j := 6) (show 6 < 8 by decide)).1
        have l6 : v6 < 4294967296 := hvt _ (by simp)
        have p7 : wr.cell? ⟨gv, 7, none⟩ = some (.int .u32 (v7 : Int)) := (R_atK hr (j := 7) (show 7 < 8 by decide)).1
        have l7 : v7 < 4294967296 := hvt _ (by simp)
        have pk : wr.cell? ⟨bk, ok + i, none⟩ = _ := HCk.out i hlt wr hbw
        have pw : wr.cell? ⟨g7, i, none⟩ = _ := pw_cell_below HB.out (R_atK HR7x.out (j := i) (by rw [HWl.out]; exact hlt)).1
        have lk := HKt.out i hlt
        have lw := HWt.out i hlt
        obtain ⟨kc, hkc⟩ : ∃ x, kN.getD i 0 = x := ⟨_, rfl⟩
        obtain ⟨wc, hwc⟩ : ∃ x, WW.getD i 0 = x := ⟨_, rfl⟩
        rw [hkc] at pk lk hrr
        rw [hwc] at pw lw hrr
        obtain ⟨x1, x2, s1, y1, ne, y2, y3, s2, s3, t, e1, e2, e3, e4, e5, e6, e7, e8, e9, e10, lt, ht⟩ := into_t v4 v5 v6 v7 kc wc l4 l5 l6
        obtain ⟨x3, x4, y4, y5, y6, y7, y8, u, d1, d2, d3, d4, d5, d6, d7, d8, lu, hu⟩ := into_u v0 v1 v2 l0 l1 l2
        have hrn : rrnd [v0, v1, v2, v3, v4, v5, v6, v7] kc wc = [add32 t u, v0, v1, v2, add32 v3 t, v4, v5, v6] := by rw [ht, hu]; rfl
        rw [hrn] at hrr
        obtain ⟨n0, hn0⟩ : ∃ x, add32 t u = x := ⟨_, rfl⟩
        obtain ⟨n4, hn4⟩ : ∃ x, add32 v3 t = x := ⟨_, rfl⟩
        have c1 : IntKind.u32.wrap ((t : Int) + (u : Int)) = (n0 : Int) := by rw [← hn0]; exact add_rule t u
        have c2 : IntKind.u32.wrap ((v3 : Int) + (t : Int)) = (n4 : Int) := by rw [← hn4]; exact add_rule v3 t
        rw [hn0, hn4] at hrr
        have HRn := Lib.hid hrr
        have HT6 := Lib.hid (fun W => rturn_any v4 6 W l4 (by decide))
        have HT11 := Lib.hid (fun W => rturn_any v4 11 W l4 (by decide))
        have HT25 := Lib.hid (fun W => rturn_any v4 25 W l4 (by decide))
        have HT2 := Lib.hid (fun W => rturn_any v0 2 W l0 (by decide))
        have HT13 := Lib.hid (fun W => rturn_any v0 13 W l0 (by decide))
        have HT22 := Lib.hid (fun W => rturn_any v0 22 W l0 (by decide))
        generalize rot v4 6 = f1 at e1 e2 d1 d2 HT6
        generalize rot v4 11 = f2 at e1 e2 d1 d2 HT11
        generalize rot v4 25 = f3 at e1 e2 d1 d2 HT25
        generalize rot v0 2 = f4 at e1 e2 d1 d2 HT2
        generalize rot v0 13 = f5 at e1 e2 d1 d2 HT13
        generalize rot v0 22 = f6 at e1 e2 d1 d2 HT22
        have z0 : (i : Int) < 64 := by omega
        have z1 : (0 : Int) ≤ (i : Int) := by omega
        have z2 : (v4 : Int) < 4294967296 := by omega
        have z3 : (0 : Int) ≤ (v4 : Int) := by omega
        have P0 := Lib.hid p0
        have P1 := Lib.hid p1
        have P2 := Lib.hid p2
        have P3 := Lib.hid p3
        have P4 := Lib.hid p4
        have P5 := Lib.hid p5
        have P6 := Lib.hid p6
        have P7 := Lib.hid p7
        have Pk := Lib.hid pk
        have Pw := Lib.hid pw
        have hkl : bk < wr.heap.size := Nat.lt_of_lt_of_le HLt.out.1 hbw.size
        have hwl : g7 < wr.heap.size := Nat.lt_of_lt_of_le HL7.out HB.out.size
        have HLs := Lib.hid (show gv < wr.heap.size ∧ bk < wr.heap.size ∧ g7 < wr.heap.size from ⟨hlv, hkl, hwl⟩)
        have E1 := Lib.hid (And.intro e1 (And.intro e2 (And.intro e3 (And.intro e4 (And.intro e5 (And.intro e6 (And.intro e7 (And.intro e8 (And.intro e9 e10)))))))))
        have E2 := Lib.hid (And.intro d1 (And.intro d2 (And.intro d3 (And.intro d4 (And.intro d5 (And.intro d6 (And.intro d7 d8)))))))
        have E3 := Lib.hid (And.intro c1 c2)
        have q0 := gw hlv p0
        have q4 := gw hlv p4
        have HLx := Lib.hid (show (v0 < 4294967296 ∧ v1 < 4294967296 ∧ v2 < 4294967296) ∧ n0 < 4294967296 ∧ n4 < 4294967296 from ⟨⟨l0, l1, l2⟩, hn0 ▸ add32_lt _ _, hn4 ▸ add32_lt _ _⟩)
        clear hlt HJ hbw hr hV hvt hrr hrn hn0 hn4 ht hu hkc hwc lt lu lk lw l0 l1 l2 l3 l4 l5 l6 l7 hkl hwl hlv hgv hcv hvl e1 e2 e3 e4 e5 e6 e7 e8 e9 e10 d1 d2 d3 d4 d5 d6 d7 d8 c1 c2 p0 p1 p2 p3 p4 p5 p6 p7 pk pw HR
        go_wp2_with fail
        refine Q.wp_region_segs none [([0, 1, 2, 3, 4, 5, 6, 7], none)] (by kernel_rfl) (by kernel_rfl) (by kernel_rfl) (by kernel_rfl) ?_
        dsimp only [Q.wpSegs, Q.picks, Q.pick]
        repeat (go_big_quiet_step (fail))
        refine wpQuiet_nil ?_
        clear q0 q4
        refine NoPanic.normal ?_
        refine exit_at fun W2 hW2 => ?_
        have hb2 : Below wr.heap.size wr W2 := by rw [hW2]; exact stay0 wr
        have HBw2 := Lib.hid (show Below wr.heap.size wr W2 from hb2)
        have q5 := gw (Nat.lt_of_lt_of_le HLs.out.1 HBw2.out.size) (pw_cell_below HBw2.out P5.out)
        have q6 := gw (Nat.lt_of_lt_of_le HLs.out.1 HBw2.out.size) (pw_cell_below HBw2.out P6.out)
        have q7 := gw (Nat.lt_of_lt_of_le HLs.out.1 HBw2.out.size) (pw_cell_below HBw2.out P7.out)
        have qk := gw (Nat.lt_of_lt_of_le HLs.out.2.1 HBw2.out.size) (pw_cell_below HBw2.out Pk.out)
        have qw := gw (Nat.lt_of_lt_of_le HLs.out.2.2 HBw2.out.size) (pw_cell_below HBw2.out Pw.out)
        obtain ⟨e1, e2, e3, e4, e5, e6, e7, e8, e9, e10⟩ := E1.out
        have z2 : (v4 : Int) < 4294967296 := z2
        clear hW2 hb2
        go_wp2_with fail
        refine Q.wp_region_segs none [([0, 1, 2, 3, 5, 8, 12, 13, 14, 15, 16, 17, 18, 19, 20, 21, 22, 23, 25, 26, 27, 28, 30, 31, 32, 33], some 4), ([], some 6), ([7], some 9), ([10, 11, 24, 29, 34, 35], none)] (by kernel_rfl) (by kernel_rfl) (by kernel_rfl) (by kernel_rfl) ?_
        dsimp only [Q.wpSegs, Q.picks, Q.pick]
        repeat (go_big_quiet_step (fail))
        refine wpQuiet_nil ?_
        clear q5 q6 q7 qk qw
        go_wp2_with fail
        refine (HT6.out _).mono ?_
        rintro e w3 ⟨rfl, hw3⟩
        rw [hw3]
        clear hw3 w3 HT6
        go_wp2_with fail
        refine Q.ev_keep (Below.refl _ _) (Nat.le_refl _) ?_
        repeat (go_big_quiet_step (fail))
        refine wpQuiet_nil ?_
        go_wp2_with fail
        refine (HT11.out _).mono ?_
        rintro e w3 ⟨rfl, hw3⟩
        rw [hw3]
        clear hw3 w3 HT11
        go_wp2_with fail
        refine Q.ev_keep (Below.refl _ _) (Nat.le_refl _) ?_
        repeat (go_big_quiet_step (fail))
        refine wpQuiet_nil ?_
        go_wp2_with fail
        refine (HT25.out _).mono ?_
        rintro e w3 ⟨rfl, hw3⟩
        rw [hw3]
        clear hw3 w3 HT25
        go_wp2_with fail
        refine Q.ev_keep (Below.refl _ _) (Nat.le_refl _) ?_
        repeat (go_big_quiet_step (fail))
        refine wpQuiet_nil ?_
        refine NoPanic.normal ?_
        clear e1 e2 e3 e4 e5 e6 e7 e8 e9 e10
        refine exit_at fun W3 hW3 => ?_
        have hb3 : Below W2.heap.size W2 W3 := by rw [hW3]; exact stay0 W2
        have HBw3 := Lib.hid (show Below wr.heap.size wr W3 from HBw2.out.trans (hb3.mono HBw2.out.size))
        have q1 := gw (Nat.lt_of_lt_of_le HLs.out.1 HBw3.out.size) (pw_cell_below HBw3.out P1.out)
        have q2 := gw (Nat.lt_of_lt_of_le HLs.out.1 HBw3.out.size) (pw_cell_below HBw3.out P2.out)
        obtain ⟨d1, d2, d3, d4, d5, d6, d7, d8⟩ := E2.out
        clear hW3 hb3
        go_wp2_with fail
        refine Q.wp_region_segs none [([0, 2, 5, 8, 9, 10, 11, 12, 13, 14, 15, 16, 17, 18, 19, 20, 21, 22, 23, 24, 25, 26], some 1), ([], some 3), ([4], some 6), ([7, 27, 28], none)] (by kernel_rfl) (by kernel_rfl) (by kernel_rfl) (by kernel_rfl) ?_
        dsimp only [Q.wpSegs, Q.picks, Q.pick]
        repeat (go_big_quiet_step (fail))
        refine wpQuiet_nil ?_
        clear q1 q2
        go_wp2_with fail
        refine (HT2.out _).mono ?_
        rintro e w3 ⟨rfl, hw3⟩
        rw [hw3]
        clear hw3 w3 HT2
        go_wp2_with fail
        refine Q.ev_keep (Below.refl _ _) (Nat.le_refl _) ?_
        repeat (go_big_quiet_step (fail))
        refine wpQuiet_nil ?_
        go_wp2_with fail
        refine (HT13.out _).mono ?_
        rintro e w3 ⟨rfl, hw3⟩
        rw [hw3]
        clear hw3 w3 HT13
        go_wp2_with fail
        refine Q.ev_keep (Below.refl _ _) (Nat.le_refl _) ?_
        repeat (go_big_quiet_step (fail))
        refine wpQuiet_nil ?_
        go_wp2_with fail
        refine (HT22.out _).mono ?_
        rintro e w3 ⟨rfl, hw3⟩
        rw [hw3]
        clear hw3 w3 HT22
        go_wp2_with fail
        refine Q.ev_keep (Below.refl _ _) (Nat.le_refl _) ?_
        repeat (go_big_quiet_step (fail))
        refine wpQuiet_nil ?_
        refine NoPanic.normal ?_
        clear d1 d2 d3 d4 d5 d6 d7 d8
        refine exit_at fun W4 hW4 => ?_
        have hb4 : Below W3.heap.size W3 W4 := by rw [hW4]; exact stay0 W3
        have HBw4 := Lib.hid (show Below wr.heap.size wr W4 from HBw3.out.trans (hb4.mono HBw3.out.size))
        have q0 := gw (Nat.lt_of_lt_of_le HLs.out.1 HBw4.out.size) (pw_cell_below HBw4.out P0.out)
        have q1 := gw (Nat.lt_of_lt_of_le HLs.out.1 HBw4.out.size) (pw_cell_below HBw4.out P1.out)
        have q2 := gw (Nat.lt_of_lt_of_le HLs.out.1 HBw4.out.size) (pw_cell_below HBw4.out P2.out)
        have q3 := gw (Nat.lt_of_lt_of_le HLs.out.1 HBw4.out.size) (pw_cell_below HBw4.out P3.out)
        have q4 := gw (Nat.lt_of_lt_of_le HLs.out.1 HBw4.out.size) (pw_cell_below HBw4.out P4.out)
        have q5 := gw (Nat.lt_of_lt_of_le HLs.out.1 HBw4.out.size) (pw_cell_below HBw4.out P5.out)
        have q6 := gw (Nat.lt_of_lt_of_le HLs.out.1 HBw4.out.size) (pw_cell_below HBw4.out P6.out)
        obtain ⟨c1, c2⟩ := E3.out
        clear hW4 hb4
        go_wp2_with fail
        refine Q.wp_region_segs none [([0, 1, 2, 3, 4, 5, 6, 7, 8, 9, 10, 11, 12, 13, 14, 15, 16, 17, 18, 19, 20, 21, 22, 23, 24, 25], some 26), ([27], none)] (by kernel_rfl) (by kernel_rfl) (by kernel_rfl) (by kernel_rfl) ?_
        dsimp only [Q.wpSegs, Q.picks, Q.pick]
        repeat (go_big_quiet_step (fail))
        refine wpQuiet_nil ?_
        clear q0 q1 q2 q3 q4 q5 q6 c1 c2
        go_wp2_with fail
        refine Q.ev_keep ((Below.refl _ _).alloc (Nat.le_refl _) _) (Nat.le_refl _) ?_
        repeat (go_big_quiet_step (fail))
        refine wpQuiet_nil ?_
        refine NoPanic.normal ?_
        refine exit_at fun W5 hW5 => ?_
        have HR5 := Lib.hid (show (Kd.int .u32).R 45 W5 w.heap.size (fun _ => True) (.slice (some ⟨W4.heap.size, 0, none⟩) 8 8) (nat (rrounds WW (i + 1) s)) from by
          rw [HRn.out, hW5]
          exact ownK (AB.mk W4.drew .u32 45 [n0, v0, v1, v2, n4, v4, v5, v6]) (Nat.le_trans HBw.out.size HBw4.out.size) (show 8 ≤ maxLen by decide))
        have HBx := Lib.hid (show Below w1.heap.size w1 W5 from by
          rw [hW5]
          exact HB.out.trans ((HBw4.out.drew.alloc HBw4.out.size _).mono HB.out.size))
        clear hW5
        go_wp2_with fail
        go_roundg k
        case measure => have := HJ'.out; omega
        case rel => exact ⟨i + 1, by go_num, Lib.hid (by have := HJ'.out; omega), HR5, HBx⟩
      · obtain rfl : i = 64 := by have := HJ.out; omega
        have hM := HMx.out
        rw [HEq.out] at hM
        have hzl := zip_len hvl HSn.out
        have HG := Lib.hid (fun i (hi : i < 8) => zip_get (a := rrounds WW 64 s) (b := s) (i := i) (by rw [hvl]; exact hi) (by rw [HSn.out]; exact hi))
        have HVt64 := Lib.hid (HVt.out 64)
        have hr64 := HR.out
        have HVn := Lib.hid hvl
        obtain ⟨V, hV⟩ : ∃ V, rrounds WW 64 s = V := ⟨_, rfl⟩
        rw [hV] at hM hzl HG hr64 HVn HVt64
        obtain ⟨Z, hZ⟩ : ∃ Z, List.zipWith add32 V s = Z := ⟨_, rfl⟩
        rw [hZ] at hzl HG hM
        have HZe := Lib.hid hM
        have HZl := Lib.hid hzl
        have HBw := Lib.hid (show Below w.heap.size w wr from HB1.out.trans (HB.out.mono HB1.out.size))
        have HRf := Lib.hid (show (Kd.int .u32).R 45 wr w.heap.size (fun _ => True) (.slice (some ⟨gv, 0, none⟩) 8 cv) (nat (fld Z V 0)) from by rw [fld_zero]; exact hr64)
        have HGv := Lib.hid hgv
        clear hlt HJ hM hzl hr64 hV hZ hvl hcv hgv hlv HR HB HVl HVt HRr HMx HR0 HEq HWt HKt HWl
        go_wp2_with fail
        go_loopg [14] 9 (fun g v14 w' => ∃ j : Nat, v14 = .int .i64 (j : Int) ∧ Hid (j ≤ 8 ∧ 8 < g + j) ∧ Hid ((Kd.int .u32).R 45 w' w.heap.size (fun _ => True) (.slice (some ⟨gv, 0, none⟩) 8 cv) (nat (fld Z V j))) ∧ Hid (Below w.heap.size w w'))
        case atStart => exact ⟨0, rfl, Lib.hid ⟨by omega, by omega⟩, HRf, HBw⟩
        case round =>
          obtain ⟨j, rfl, HJ, HR, HB⟩ := hrel
          clear HRf HBw
          cases gk with
          | zero => have := HJ.out; omega
          | succ k2 =>
            have hZV : Z.length = V.length := by rw [HZl.out, HVn.out]
            by_cases hlt : j < 8
            · have HJ' := Lib.hid (show j < 8 ∧ 8 < (k2 + 1) + j from ⟨hlt, HJ.out.2⟩)
              have hjZ : j < Z.length := by rw [HZl.out]; exact hlt
              have hfl : j < (fld Z V j).length := by rw [fld_length hZV (by omega), ← hZV]; exact hjZ
              obtain ⟨k1, k2'⟩ := R_atK HR.out (j := j) hfl
              rw [fld_get hZV hjZ] at k1
              have hg := Kd.R_lt HR.out gv rfl
              have k3 := HCs.out j hlt wr HB.out
              have hgj := HG.out j hlt
              have hvj := getD_lt (show j < V.length by rw [HVn.out]; exact hlt) HVt64.out
              have hsj := getD_lt (show j < s.length by rw [HSn.out]; exact hlt) HSl.out
              have hst := fld_step hZV hjZ
              obtain ⟨xv, hxv⟩ : ∃ x, V.getD j 0 = x := ⟨_, rfl⟩
              obtain ⟨xs, hxs⟩ : ∃ x, s.getD j 0 = x := ⟨_, rfl⟩
              obtain ⟨xz, hxz⟩ : ∃ x, Z.getD j 0 = x := ⟨_, rfl⟩
              rw [hxv] at k1 hvj hgj
              rw [hxs] at k3 hsj hgj
              rw [hxz] at hgj hst
              have HSt := Lib.hid hst
              have e1 : IntKind.u32.wrap ((xv : Int) + (xs : Int)) = (xz : Int) := by rw [hgj]; exact add_rule xv xs
              have g1 := gw hg k1
              have g2 := gw (Nat.lt_of_lt_of_le HLt.out.2 HB.out.size) k3
              have k1d : wr.drew.cell? ⟨gv, j, none⟩ = some (.int .u32 (xv : Int)) := k1
              have k2d : wr.drew.frozen? ⟨gv, j, none⟩ = false := k2'
              have z0 : (j : Int) < 8 := by omega
              have z1 : (0 : Int) ≤ (j : Int) := by omega
              clear hlt HJ hjZ hfl k1 k2' hg k3 hgj hvj hsj hst hxv hxs hxz hZV
              go_wp2_with fail
              refine Q.wp_region_segsF none [] [0, 1, 2, 3, 4, 5, 6, 7, 8, 9, 10, 11] 12 (by kernel_rfl) (by kernel_rfl) (by kernel_rfl) (by kernel_rfl) ?_
              dsimp only [Q.wpSegsF, Q.picks, Q.pick]
              repeat (go_big_quiet_step (fail))
              refine wpQuiet_nil ?_
              clear g1 g2 e1
              go_wp2_with fail
              refine NoPanic.normal ?_
              clear k1d k2d
              refine exit_at fun W5 hW5 => ?_
              have hw5 := R_wrK HR.out j xz
              have HR5 := Lib.hid (show (Kd.int .u32).R 45 W5 w.heap.size (fun _ => True) (.slice (some ⟨gv, 0, none⟩) 8 cv) (nat (fld Z V (j + 1))) from by
                rw [hW5, ← HSt.out]
                exact Kd.R_below hw5.1 (stay0 _))
              have HB5 := Lib.hid (show Below w.heap.size w W5 from by rw [hW5]; exact (HB.out.grown hw5.2 HB.out.size (fun k hk => by injection hk with hk; have := HGv.out; omega)).drew)
              clear hW5 hw5
              go_wp2_with fail
              go_roundg k2
              case measure => have := HJ'.out; omega
              case rel => exact ⟨j + 1, by go_num, Lib.hid (by have := HJ'.out; omega), HR5, HB5⟩
            · obtain rfl : j = 8 := by have := HJ.out; omega
              have HRe := Lib.hid (show (Kd.int .u32).R 45 wr w.heap.size (fun _ => True) (.slice (some ⟨gv, 0, none⟩) 8 cv) (nat Z) from by have := HR.out; rwa [← HZl.out, fld_all hZV, HZl.out] at this)
              clear hlt HJ HR hZV
              go_wp2_with fail
              go_ret
              exact ⟨_, rfl, by rw [HZe.out]; exact HRe.out, HB.out⟩
end Go.Proofs.Ytblnclooobggnaa.H

namespace Go.Proofs.Ytblnclooobggnaa.H
open Go.RowKit Go.Proofs.Ytblnclooobggnaa.L Go.Proofs.Ytblnclooobggnaa.N Go.Proofs.YtblnclooobggnaaW.PrintWords

set_option maxRecDepth 100000 in
set_option maxHeartbeats 1600000 in
theorem carried_any (l : List Nat) (n : Nat) (A : Option Addr) (c : Nat) (w : World) (hn : l.length = n) (hC : (Kd.int .u64).C w A n (nat l)) (hl : n ≤ 100) (hb : ∀ x ∈ l, x < 2 ^ 50) (hv : val l < 4096 ^ n) :
    Calls Try.prog 89 #[.slice A n c] w fun e w' => ∃ v, e = .returned v ∧ (Kd.int .u64).R 64 w' w.heap.size (fun _ => True) v (nat (digs n (val l))) ∧ Below w.heap.size w w' := by
  subst hn
  have HC := Lib.hid hC
  have HL := Lib.hid hl
  have HV := Lib.hid hv
  have HX := Lib.hid (fun i (h : i < l.length) => getD_lt h hb)
  have HS := Lib.hid (fun i => digs_snoc i (val l))
  have HN := Lib.hid (fun i => digs_length i (val l))
  have z1 : (l.length : Int) ≤ 100 := by omega
  have HD := Lib.hid (fun i c (h : Car l i c) (hi : i < l.length) => h.digit hi)
  clear hC hl hb hv
  go_enter Try.func89, Try.ntmps89
  go_wp2_with fail
  go_loopg [3, 4, 5] (l.length + 1) (fun g v3 v4 v5 w' => ∃ i c : Nat, v5 = .int .i64 (i : Int) ∧ v4 = .int .u64 (c : Int) ∧ Hid (i ≤ l.length ∧ l.length < g + i) ∧ Hid (Car l i c) ∧ Hid ((Kd.int .u64).R 64 w' w.heap.size (fun _ => True) v3 (nat (digs i (val l)))) ∧ Hid (Below w.heap.size w w'))
  case atStart => exact ⟨0, 0, rfl, rfl, Lib.hid ⟨by omega, by omega⟩, Lib.hid (Car.start l), Lib.hid (Kd.R_nil _ _ _ _ _), Lib.hid (Below.refl _ _)⟩
  case round =>
    obtain ⟨i, c, rfl, rfl, HJ, HK, HR, HB⟩ := hrel
    cases gk with
    | zero => have := HJ.out; omega
    | succ k =>
      by_cases hlt : i < l.length
      · have HJ' := Lib.hid (show i < l.length ∧ l.length < (k + 1) + i from ⟨hlt, HJ.out.2⟩)
        obtain ⟨b, off, rfl, hbk, hcell⟩ := B_at (Kd.C_below HC.out HB.out) (by omega)
        have p1 := hcell i hlt
        have hx := HX.out i hlt
        have hcl := HK.out.lt
        have hdg := HD.out i c HK.out hlt
        have hst := HK.out.step hlt hx
        obtain ⟨x, hxx⟩ : ∃ x, l.getD i 0 = x := ⟨_, rfl⟩
        rw [hxx] at p1 hx hdg hst
        obtain ⟨s, hs⟩ : ∃ s, c + x = s := ⟨_, rfl⟩
        rw [hs] at hdg hst
        obtain ⟨d, hd⟩ : ∃ d, s % 4096 = d := ⟨_, rfl⟩
        obtain ⟨q, hq⟩ : ∃ q, s / 4096 = q := ⟨_, rfl⟩
        rw [hd] at hdg
        rw [hq] at hst
        have HDg := Lib.hid (show nat (digs (i + 1) (val l)) = nat (digs i (val l)) ++ [(d : Int)] from by rw [HS.out i, ← hdg, nat_app]; rfl)
        have HSt := Lib.hid hst
        have HLn := Lib.hid (show (nat (digs i (val l))).length = i from by rw [nat_length, HN.out])
        have q1 : (c : Int) + (x : Int) = (s : Int) := by omega
        have q2 : (s : Int) % 4096 = (d : Int) := by omega
        have q3 : (s : Int) / 4096 = (q : Int) := by omega
        have z2 : (i : Int) < (l.length : Int) := by omega
        have z3 : (0 : Int) ≤ (i : Int) := by omega
        have z4 : (c : Int) ≤ 2251799813685248 := by omega
        have z5 : (x : Int) ≤ 1125899906842624 := by omega
        have z6 : (0 : Int) ≤ (s : Int) := by omega
        have z7 : (s : Int) ≤ 3377699720527872 := by omega
        have z8 : decide ((i : Int) < (l.length : Int)) = true := decide_eq_true z2
        have z9 : decide (i < l.length) = true := decide_eq_true hlt
        clear hlt HJ hbk hcell hx hcl hdg hst hxx hs hd hq HK HX HS HD
        generalize nat (digs i (val l)) = D at *
        go_wp2_with (at_builtin; refine app1 (w0 := w) .u64 w.heap.size (.tmp 26) (.tmp 29) 154 64 8 rfl rfl Try.underlying154 info_u64 (by decide) u3 D (d : Int) rfl rfl HR.out HB.out HB.out.size (by have := HLn.out; have := HJ'.out; have := HL.out; omega) ?_; intro v8 w8 hr8 hb8 _; (have HR8 := Lib.hid hr8); (have HB8 := Lib.hid hb8); clear hr8 hb8)
        go_roundg k
        case measure => have := HJ'.out; omega
        case rel => exact ⟨i + 1, q, by go_num, rfl, Lib.hid (by have := HJ'.out; omega), HSt, Lib.hid (by rw [HDg.out]; exact HR8.out), HB8⟩
      · obtain rfl : i = l.length := by have := HJ.out; omega
        obtain rfl : c = 0 := HK.out.stop HV.out
        clear hlt HJ
        go_wp2_with fail
        go_ret
        exact ⟨_, rfl, HR.out, HB.out⟩

theorem val_mul_lt {a b : List Nat} (ha : ∀ x ∈ a, x < 4096) (hb : ∀ x ∈ b, x < 4096) : val a * val b < 4096 ^ (a.length + b.length) := by
  rw [Nat.pow_add]
  exact Nat.mul_lt_mul'' (val_lt a ha) (val_lt b hb)
theorem mem_getD_lt {o : List Nat} {m : Nat} (h : ∀ j, o.getD j 0 < m) : ∀ x ∈ o, x < m := by
  intro x hx
  obtain ⟨j, hj, rfl⟩ := List.mem_iff_getElem.1 hx
  have := h j
  rwa [List.getD_eq_getElem?_getD, List.getElem?_eq_getElem hj] at this
set_option maxRecDepth 100000 in
set_option maxHeartbeats 3200000 in
theorem mul_any (a b : List Nat) (n m : Nat) (A B : Option Addr) (ca cb : Nat) (w : World) (hn : a.length = n) (hm : b.length = m) (hA : (Kd.int .u64).C w A n (nat a)) (hB : (Kd.int .u64).C w B m (nat b)) (ha : ∀ x ∈ a, x < 4096) (hb : ∀ x ∈ b, x < 4096) (hl : 0 < n ∧ n ≤ 8) (hk : 0 < m ∧ m ≤ 8) :
    Calls Try.prog 88 #[.slice A n ca, .slice B m cb] w fun e w' => ∃ v, e = .returned v ∧ (Kd.int .u64).R 64 w' w.heap.size (fun _ => True) v (nat (digs (n + m) (val a * val b))) ∧ Below w.heap.size w w' := by
  subst hn
  subst hm
  have HA := Lib.hid hA
  have HB := Lib.hid hB
  have HA8 := Lib.hid ha
  have HB8 := Lib.hid hb
  have HL := Lib.hid hl
  have HM := Lib.hid hk
  have HVl := Lib.hid (val_mul_lt ha hb)
  have HMs := Lib.hid (Mul.start a b)
  obtain ⟨t, ht⟩ : ∃ t, a.length + b.length = t := ⟨_, rfl⟩
  have HT := Lib.hid ht
  have q1 : (a.length : Int) + (b.length : Int) = (t : Int) := by omega
  have z1 : (a.length : Int) ≤ 8 := by omega
  have z2 : (b.length : Int) ≤ 8 := by omega
  have z3 : (0 : Int) < (a.length : Int) := by omega
  have z4 : (0 : Int) < (b.length : Int) := by omega
  have z5 : (t : Int) ≤ 16 := by omega
  have z6 : (0 : Int) ≤ (t : Int) := by omega
  have hmk := make_u64 t (t : Int) rfl (by omega)
  rw [ht] at HMs
  obtain ⟨bA, oA, eA, hbA, hcA⟩ := B_at hA hl.1
  obtain ⟨bB, oB, eB, hbB, hcB⟩ := B_at hB hk.1
  have HcA := Lib.hid (fun i (hi : i < a.length) W (hW : Below w.heap.size w W) => pw_cell_below hW (hcA i hi))
  have HcB := Lib.hid (fun i (hi : i < b.length) W (hW : Below w.heap.size w W) => pw_cell_below hW (hcB i hi))
  have HbA := Lib.hid (show bA < w.heap.size ∧ bB < w.heap.size from ⟨hbA, hbB⟩)
  subst eA
  subst eB
  clear hA hB ha hb hl hk ht hcA hcB hbA hbB
  go_enter Try.func88, Try.ntmps88
  go_wp2_with fail
  refine exit_at fun W1 hW1 => ?_
  have HO := Lib.hid (show AB .u64 64 w.heap.size (List.replicate t 0) W1 from by rw [hW1]; exact AB.mk w .u64 64 _)
  have HB1 := Lib.hid (show Below w.heap.size w W1 from by rw [hW1]; exact (Below.refl _ _).alloc (Nat.le_refl _) _)
  clear hW1 hmk
  have HG := Lib.hid (show w.heap.size = w.heap.size from rfl)
  go_wp2_with fail
  go_loopg [6] (a.length + 1) (fun g v6 w' => ∃ (i : Nat) (o : List Nat), v6 = .int .i64 (i : Int) ∧ Hid (i ≤ a.length ∧ a.length < g + i) ∧ Hid (Mul a b i 0 o) ∧ Hid (AB .u64 64 w.heap.size o w') ∧ Hid (Below w.heap.size w w'))
  case atStart => exact ⟨0, _, rfl, Lib.hid ⟨by omega, by omega⟩, HMs, HO, HB1⟩
  case round =>
    obtain ⟨i, o, rfl, HJ, HMu, HAb, HBl⟩ := hrel
    clear HMs HO HB1
    cases gk with
    | zero => have := HJ.out; omega
    | succ k =>
      by_cases hlt : i < a.length
      · have HJ' := Lib.hid (show i < a.length ∧ a.length < (k + 1) + i from ⟨hlt, HJ.out.2⟩)
        have y2 : (i : Int) < (a.length : Int) := by omega
        have y3 : (0 : Int) ≤ (i : Int) := by omega
        clear hlt HJ
        go_wp2_with fail
        go_loopg [7] (b.length + 1) (fun g v7 w' => ∃ (j : Nat) (o : List Nat), v7 = .int .i64 (j : Int) ∧ Hid (j ≤ b.length ∧ b.length < g + j) ∧ Hid (Mul a b i j o) ∧ Hid (AB .u64 64 w.heap.size o w') ∧ Hid (Below w.heap.size w w'))
        case atStart => exact ⟨0, o, rfl, Lib.hid ⟨by omega, by omega⟩, HMu, HAb, HBl⟩
        case round =>
          obtain ⟨j, o, rfl, HQ, HMu, HAb, HBl⟩ := hrel
          cases gk with
          | zero => have := HQ.out; omega
          | succ k2 =>
            by_cases hlt : j < b.length
            · have HQ' := Lib.hid (show j < b.length ∧ b.length < (k2 + 1) + j from ⟨hlt, HQ.out.2⟩)
              have HMn := Lib.hid (HMu.out.step HA8.out HB8.out HJ'.out.1 hlt)
              have hol : i + j < o.length := by have := HMu.out.len; have := HJ'.out; omega
              have k1 := HAb.out.cell hol
              have k2' := HAb.out.fz (i + j)
              have k3 := HcA.out i HJ'.out.1 wr HBl.out
              have k4 := HcB.out j hlt wr HBl.out
              have hsz := HBl.out.size
              have hxo := HMu.out.lt (i + j)
              have hya := getD_lt HJ'.out.1 HA8.out
              have hyb := getD_lt hlt HB8.out
              have hlin : i * b.length + j ≤ 100 := by
                have h1 := HJ'.out.1
                have h2 := HL.out
                have h3 := HM.out
                have : i * b.length ≤ 8 * 8 := Nat.mul_le_mul (by omega) (by omega)
                omega
              have hob : w.heap.size < wr.heap.size := HAb.out.lt
              have hba : bA < wr.heap.size := by have := HbA.out; omega
              have hbb : bB < wr.heap.size := by have := HbA.out; omega
              obtain ⟨x, hx⟩ : ∃ x, o.getD (i + j) 0 = x := ⟨_, rfl⟩
              obtain ⟨ya, hya'⟩ : ∃ x, a.getD i 0 = x := ⟨_, rfl⟩
              obtain ⟨yb, hyb'⟩ : ∃ x, b.getD j 0 = x := ⟨_, rfl⟩
              rw [hx] at k1 hxo HMn
              rw [hya'] at k3 hya HMn
              rw [hyb'] at k4 hyb HMn
              obtain ⟨u, hu⟩ : ∃ u, ya * yb = u := ⟨_, rfl⟩
              have hub : u ≤ 4095 * 4095 := by rw [← hu]; exact Nat.mul_le_mul (by omega) (by omega)
              rw [hu] at HMn
              obtain ⟨s, hs⟩ : ∃ s, x + u = s := ⟨_, rfl⟩
              rw [hs] at HMn
              obtain ⟨p, hp⟩ : ∃ p, i + j = p := ⟨_, rfl⟩
              rw [hp] at k1 k2' hol HMn
              have e1 : (ya : Int) * (yb : Int) = (u : Int) := by rw [← hu]; exact (Int.natCast_mul ya yb).symm
              have e2 : (x : Int) + (u : Int) = (s : Int) := by omega
              have e3 : (i : Int) + (j : Int) = (p : Int) := by omega
              have e4 : IntKind.u64.wrap ((ya : Int) * (yb : Int)) = (u : Int) := by rw [e1]; exact wraps_u64 _ (by omega) (by omega)
              have e5 : IntKind.u64.wrap ((x : Int) + (u : Int)) = (s : Int) := by
                rw [e2]; exact wraps_u64 _ (by omega) (by omega)
              have e6 : IntKind.i64.wrap ((i : Int) + (j : Int)) = (p : Int) := by rw [e3]; exact IntWalk.i64_in _ (by omega)
              have e7 : IntKind.u64.wrap (u : Int) = (u : Int) := wraps_u64 _ (by omega) (by omega)
              have g1 := gw hob k1
              have g2 := gw hba k3
              have g3 := gw hbb k4
              have k1d : wr.drew.cell? ⟨w.heap.size, p, none⟩ = some (.int .u64 (x : Int)) := k1
              have k2d : wr.drew.frozen? ⟨w.heap.size, p, none⟩ = false := k2'
              have y4 : (j : Int) < (b.length : Int) := by omega
              have y5 : (0 : Int) ≤ (j : Int) := by omega
              have y6 : (p : Int) < (t : Int) := by have := HT.out; have := HMu.out.len; omega
              have y7 : (0 : Int) ≤ (p : Int) := by omega
              clear k1 k2' k3 k4 hsz hxo hya hyb hlin hob hba hbb hx hya' hyb' hu hub hs hp hol hlt HQ e2
              go_wp2_with fail
              refine Q.wp_region_segsF none [] [0, 1, 2, 3, 4, 5, 6, 7, 8, 9, 10, 11, 12, 13, 14, 15, 16, 17, 18, 19, 20] 21 (by kernel_rfl) (by kernel_rfl) (by kernel_rfl) (by kernel_rfl) ?_
              dsimp only [Q.wpSegsF, Q.picks, Q.pick]
              repeat (go_big_quiet_step (fail))
              refine wpQuiet_nil ?_
              clear g1 g2 g3
              go_wp2_with fail
              refine NoPanic.normal ?_
              clear k1d k2d e1 e3 e4 e5 e6 e7
              refine exit_at fun W5 hW5 => ?_
              have HAb5 := Lib.hid (show AB .u64 64 w.heap.size (o.set p s) W5 from by rw [hW5]; exact (HAb.out.set p s).drew)
              have HBl5 := Lib.hid (show Below w.heap.size w W5 from by rw [hW5]; exact (HBl.out.grown (grown_set wr w.heap.size p _) HBl.out.size (fun k hk => by injection hk with hk; omega)).drew)
              clear hW5
              go_wp2_with fail
              go_roundg k2
              case measure => have := HQ'.out; omega
              case rel => exact ⟨j + 1, _, by go_num, Lib.hid (by have := HQ'.out; omega), HMn, HAb5, HBl5⟩
            · obtain rfl : j = b.length := by have := HQ.out; omega
              have HMn := Lib.hid (HMu.out.next HJ'.out.1)
              clear hlt HQ
              go_wp2_with fail
              go_roundg k
              case measure => have := HJ'.out; omega
              case rel => exact ⟨i + 1, o, by go_num, Lib.hid (by have := HJ'.out; omega), HMn, HAb, HBl⟩
      · obtain rfl : i = a.length := by have := HJ.out; omega
        have hol := HMu.out.len
        rw [HT.out] at hol
        have hvo := HMu.out.all
        have ho50 : ∀ x ∈ o, x < 2 ^ 50 := mem_getD_lt fun j => by
          have h1 := HMu.out.lt j
          have h2 : a.length * b.length ≤ 8 * 8 := Nat.mul_le_mul HL.out.2 HM.out.2
          omega
        have hrow := rowK HAb.out (by rw [hol]; have := HT.out; have := HL.out; have := HM.out; unfold maxLen; omega)
        rw [hol] at hrow
        have hq := carried_any o t (some ⟨w.heap.size, 0, none⟩) t wr hol hrow (by have := HT.out; have := HL.out; have := HM.out; omega) ho50 (by rw [hvo, ← HT.out]; exact HVl.out)
        rw [hvo] at hq
        have HQ := Lib.hid hq
        clear hlt HJ hol hvo ho50 hrow hq
        go_wp2_with fail
        refine HQ.out.mono ?_
        rintro e w9 ⟨v9, rfl, hr9, hb9⟩
        have HR9 := Lib.hid (Kd.R_lower hr9 HBl.out.size)
        have HB9 := Lib.hid (HBl.out.trans (hb9.mono HBl.out.size))
        clear hr9 hb9
        go_wp2_with fail
        go_ret
        exact ⟨_, rfl, by rw [HT.out]; exact HR9.out, HB9.out⟩
end Go.Proofs.Ytblnclooobggnaa.H

namespace Go.Proofs.Ytblnclooobggnaa.H
open Go.RowKit Go.Proofs.Ytblnclooobggnaa.L Go.Proofs.Ytblnclooobggnaa.N Go.Proofs.YtblnclooobggnaaW.PrintWords

/-- a row of zeros with one number in it -/
def wantN (n j y : Nat) : List Nat := (List.replicate n 0).set j y
theorem wantN_len (n j y : Nat) : (wantN n j y).length = n := by unfold wantN; rw [List.length_set, List.length_replicate]
theorem wantN_get {n j y k : Nat} (hj : j < n) : (wantN n j y).getD k 0 = if k = j then y else 0 := by
  unfold wantN
  rw [getD_set', List.length_replicate]
  by_cases h : k = j
  · subst h; simp [hj]
  · rw [if_neg h, if_neg (by omega), List.getD_eq_getElem?_getD, List.getElem?_replicate]
    split <;> rfl
theorem wantN_lt {n j y m : Nat} (h0 : 0 < m) (hy : y < m) : ∀ x ∈ wantN n j y, x < m := by
  intro x hx
  unfold wantN at hx
  rcases List.mem_or_eq_of_mem_set hx with h | h
  · rw [List.eq_of_mem_replicate h]; exact h0
  · rw [h]; exact hy
theorem wantN_set (n j y z : Nat) : (wantN n j y).set j z = wantN n j z := by unfold wantN; rw [List.set_set]
theorem wantN_other {n j y k : Nat} (hj : j < n) (h : k ≠ j) : (wantN n j y).set k 0 = wantN n j y := by
  apply List.ext_getElem?
  intro i
  rw [List.getElem?_set]
  by_cases e : k = i
  · subst e
    rw [if_pos rfl]
    have h1 := wantN_get (y := y) (k := k) hj
    rw [if_neg h, List.getD_eq_getElem?_getD] at h1
    by_cases hk : k < (wantN n j y).length
    · rw [if_pos hk, List.getElem?_eq_getElem hk] at *
      simp at h1
      rw [h1]
    · rw [if_neg hk, List.getElem?_eq_none (by omega)]
  · rw [if_neg e]
theorem wantN_val {n j y : Nat} (hj : j < n) : val (wantN n j y) = y * 4096 ^ j := by
  have h := val_set (List.replicate n 0) j y (by rw [List.length_replicate]; exact hj)
  have h0 : (List.replicate n 0).getD j 0 = 0 := by
    rw [List.getD_eq_getElem?_getD, List.getElem?_replicate]
    split <;> rfl
  rw [h0, Nat.zero_add, val_zero, Nat.zero_add] at h
  exact h
theorem val4 (x : Nat) : val [x % 4096, x / 4096 % 4096, x / 16777216 % 4096, x / 68719476736] = x := by
  simp only [val]
  omega
set_option maxRecDepth 100000 in
set_option maxHeartbeats 6400000 in
theorem under_two (x p : Nat) (w : World) (hx : x < 137438953472) (hp : p ≤ 1000) :
    Calls Try.prog 80 #[.int .u64 (x : Int), .int .u64 (p : Int), .bool false] w fun e w' => e = .returned (.bool (undN false p x)) ∧ Below w.heap.size w w' := by
  obtain ⟨r, hr⟩ : ∃ r, undN false p x = r := ⟨_, rfl⟩
  have HR0 := Lib.hid (show decide (x * x ≤ p * 2 ^ 64) = r from hr)
  have hX : val [x % 4096, x / 4096 % 4096, x / 16777216 % 4096, x / 68719476736] = x := val4 x
  obtain ⟨d0, h0⟩ : ∃ d, x % 4096 = d := ⟨_, rfl⟩
  obtain ⟨x1, hx1⟩ : ∃ d, x / 4096 = d := ⟨_, rfl⟩
  obtain ⟨d1, h1⟩ : ∃ d, x1 % 4096 = d := ⟨_, rfl⟩
  obtain ⟨x2, hx2⟩ : ∃ d, x / 16777216 = d := ⟨_, rfl⟩
  obtain ⟨d2, h2⟩ : ∃ d, x2 % 4096 = d := ⟨_, rfl⟩
  obtain ⟨d3, h3⟩ : ∃ d, x / 68719476736 = d := ⟨_, rfl⟩
  rw [h0, hx1, h1, hx2, h2, h3] at hX
  have q0 : (x : Int) % 4096 = (d0 : Int) := by omega
  have q1 : (x : Int) / 4096 = (x1 : Int) := by omega
  have q2 : (x1 : Int) % 4096 = (d1 : Int) := by omega
  have q3 : (x : Int) / 16777216 = (x2 : Int) := by omega
  have q4 : (x2 : Int) % 4096 = (d2 : Int) := by omega
  have q5 : (x : Int) / 68719476736 = (d3 : Int) := by omega
  have z0 : (x : Int) < 137438953472 := by omega
  have z1 : (0 : Int) ≤ (x : Int) := by omega
  have z2 : (p : Int) ≤ 1000 := by omega
  have z3 : (0 : Int) ≤ (p : Int) := by omega
  have z4 : (0 : Int) ≤ (x1 : Int) := by omega
  have z5 : (0 : Int) ≤ (x2 : Int) := by omega
  have hD8 : ∀ y ∈ [d0, d1, d2, d3], y < 4096 := by
    intro y hy
    simp only [List.mem_cons, List.not_mem_nil, or_false] at hy
    rcases hy with rfl | rfl | rfl | rfl <;> omega
  have HX := Lib.hid hX
  have HD8 := Lib.hid hD8
  have HP := Lib.hid hp
  have HXl := Lib.hid hx
  rw [hr]
  clear hr h0 hx1 h1 hx2 h2 h3 hX hD8 hp hx
  have hmk := make_u64 10 10 rfl (by decide)
  go_enter Try.func80, Try.ntmps80
  go_wp2_with fail
  refine calls_at fun W1 hW1 => ?_
  have HA1 := Lib.hid (show AB .u64 64 w.heap.size [d0, d1, d2, d3] W1 from by rw [hW1]; exact AB.mk w .u64 64 _)
  have HB1 := Lib.hid (show Below w.heap.size w W1 from by rw [hW1]; exact (Below.refl _ _).alloc (Nat.le_refl _) _)
  have hrow := rowK HA1.out (show 4 ≤ maxLen by decide)
  have hq := mul_any [d0, d1, d2, d3] [d0, d1, d2, d3] 4 4 (some ⟨w.heap.size, 0, none⟩) (some ⟨w.heap.size, 0, none⟩) 4 4 W1 rfl rfl hrow hrow HD8.out HD8.out (by decide) (by decide)
  rw [HX.out] at hq
  have HQ := Lib.hid hq
  have HS1 := Lib.hid (show w.heap.size < W1.heap.size from HA1.out.lt)
  clear hW1 hrow hq q0 q1 q2 q3 q4 q5 z4 z5
  refine HQ.out.mono ?_
  rintro e w2 ⟨v2, rfl, hr2, hb2⟩
  have HB2 := Lib.hid (HB1.out.trans (hb2.mono HB1.out.size))
  have HR2 := Lib.hid hr2
  have HS2 := Lib.hid hb2.size
  have HA2 := Lib.hid (HA1.out.below HA1.out.lt hb2)
  obtain ⟨A2, c2, hv2, hc2, hC2⟩ := Kd.R_reads hr2
  rw [nat_length, digs_length] at hv2 hC2
  subst hv2
  have HC2 := Lib.hid hC2
  have HX2 := Lib.hid (show x * x < 4096 ^ 8 from Nat.lt_of_lt_of_le (Nat.mul_lt_mul'' HXl.out HXl.out) (by decide))
  have HN2 := Lib.hid (digs_length 8 (x * x))
  clear hr2 hb2 hc2 hC2 HQ
  have HRn := Lib.hid (Kd.R_lower HR2.out (Nat.le_of_lt HS1.out))
  clear HR2 HC2 HN2 HA2 HA1 HB1
  obtain ⟨M, hM⟩ : ∃ M, x * x = M := ⟨_, rfl⟩
  rw [hM] at HR0 HX2 HRn
  clear hM
  have HWs := Lib.hid (show w.heap.size ≤ w2.heap.size from Nat.le_trans (Nat.le_of_lt HS1.out) HS2.out)
  go_upto_region 8 with (fail)
  refine wp_at fun W3 hW3 => ?_
  obtain ⟨gw4, hgw4⟩ : ∃ g, w2.heap.size = g := ⟨_, rfl⟩
  have haw := show AB .u64 64 gw4 (List.replicate 10 0) W3 from by rw [hW3, ← hgw4]; exact AB.mk w2 .u64 64 (List.replicate 10 0)
  have hb3 := show Below w2.heap.size w2 W3 from by rw [hW3]; exact (Below.refl _ _).alloc (Nat.le_refl _) _
  have HAw3 := Lib.hid haw
  have HNt3 := Lib.hid hb3
  have HG4 := Lib.hid (show w.heap.size ≤ gw4 ∧ w2.heap.size ≤ gw4 from by have := HWs.out; omega)
  have k1 : W3.cell? ⟨gw4, 5, none⟩ = some (.int .u64 0) := haw.cell (i := 5) (by decide)
  have k2 : W3.frozen? ⟨gw4, 5, none⟩ = false := haw.fz 5
  try rw [hgw4]
  clear hW3 haw hb3 hmk hgw4
  go_wp2_with fail
  refine exit_at fun W4 hW4 => ?_
  have HAw := Lib.hid (show AB .u64 64 gw4 (wantN 10 5 p) W4 from by rw [hW4]; exact HAw3.out.set 5 p)
  have HNt := Lib.hid (show Below w2.heap.size w2 W4 from by rw [hW4]; exact HNt3.out.setCell HG4.out.2 _)
  have HB4 := Lib.hid (HB2.out.trans (HNt.out.mono HB2.out.size))
  clear hW4 k1 k2 HAw3 HNt3
  have HP2 := Lib.hid (show p * 2 ^ 0 = p from by rw [Nat.pow_zero, Nat.mul_one])
  have HAw0 := Lib.hid (show AB .u64 64 gw4 (wantN 10 5 (p * 2 ^ 0)) W4 from by rw [HP2.out]; exact HAw.out)
  clear HAw HP2
  go_loopg [11] 6 (fun g v11 w' => ∃ i : Nat, v11 = .int .i64 (i : Int) ∧ Hid (i ≤ 4 ∧ 4 < g + i) ∧ Hid (AB .u64 64 gw4 (wantN 10 5 (p * 2 ^ i)) w') ∧ Hid (Below w2.heap.size w2 w'))
  case atStart => exact ⟨0, rfl, Lib.hid ⟨by omega, by omega⟩, HAw0, HNt⟩
  case round =>
    obtain ⟨i, rfl, HJ, HAw, HNt⟩ := hrel
    clear HAw0
    cases gk with
    | zero => have := HJ.out; omega
    | succ k =>
      by_cases hlt : i < 4
      · have HJ' := Lib.hid (show i < 4 ∧ 4 < (k + 1) + i from ⟨hlt, HJ.out.2⟩)
        have y0 : (i : Int) < 4 := by omega
        have y1 : (0 : Int) ≤ (i : Int) := by omega
        have HY := Lib.hid (show p * 2 ^ i ≤ 8000 ∧ p * 2 ^ (i + 1) = 2 * (p * 2 ^ i) from by
          have h1 := HP.out
          have h2 : 2 ^ i ≤ 2 ^ 3 := Nat.pow_le_pow_right (by decide) (by omega)
          have h3 : p * 2 ^ i ≤ 1000 * 2 ^ 3 := Nat.mul_le_mul h1 h2
          exact ⟨h3, by rw [Nat.pow_succ, ← Nat.mul_assoc, Nat.mul_comm]⟩)
        obtain ⟨u, hu⟩ : ∃ u, p * 2 ^ i = u := ⟨_, rfl⟩
        rw [hu] at HAw HY
        have HY2 := Lib.hid HY.out.2
        have HAw1 := Lib.hid (show AB .u64 64 gw4 (wantN 10 5 (if 5 < 0 then 2 * u else u)) wr from HAw.out)
        clear hlt HJ hu HAw
        go_wp2_with fail
        go_loopg [12] 11 (fun g v12 w' => ∃ m : Nat, v12 = .int .i64 (m : Int) ∧ Hid (m ≤ 10 ∧ 10 < g + m) ∧ Hid (AB .u64 64 gw4 (wantN 10 5 (if 5 < m then 2 * u else u)) w') ∧ Hid (Below w2.heap.size w2 w'))
        case atStart => exact ⟨0, rfl, Lib.hid ⟨by omega, by omega⟩, HAw1, HNt⟩
        case round =>
          obtain ⟨m, rfl, HQ, HA, HNt⟩ := hrel
          clear HAw1
          cases gk with
          | zero => have := HQ.out; omega
          | succ k2 =>
            by_cases hlt : m < 10
            · have HQ' := Lib.hid (show m < 10 ∧ 10 < (k2 + 1) + m from ⟨hlt, HQ.out.2⟩)
              have x0 : (m : Int) < 10 := by omega
              have x1 : (0 : Int) ≤ (m : Int) := by omega
              have k1 := HA.out.cell (i := m) (by rw [wantN_len]; exact hlt)
              have k2' := HA.out.fz m
              rw [wantN_get (by decide)] at k1
              by_cases h5 : m = 5
              · rw [if_pos h5, if_neg (by omega)] at k1
                have HA2 := Lib.hid (show AB .u64 64 gw4 (wantN 10 5 u) wr from by have := HA.out; rwa [if_neg (by omega)] at this)
                have x2 : (0 : Int) ≤ (u : Int) := by omega
                have x3 : (u : Int) ≤ 8000 := by have := HY.out.1; omega
                obtain ⟨z, hzz⟩ : ∃ z, 2 * u = z := ⟨_, rfl⟩
                have e1 : 2 * (u : Int) = (z : Int) := by omega
                have e2 : IntKind.u64.wrap (2 * (u : Int)) = (z : Int) := by rw [e1]; exact wraps_u64 _ (by omega) (by omega)
                have HZz := Lib.hid hzz
                clear hzz
                have HM5 := Lib.hid h5
                clear h5 hlt HQ HA
                go_wp2_with fail
                clear k1 k2' e1 e2
                refine exit_at fun W5 hW5 => ?_
                have HA5 := Lib.hid (show AB .u64 64 gw4 (wantN 10 5 (if 5 < m + 1 then 2 * u else u)) W5 from by
                  rw [hW5, if_pos (by have := HM5.out; omega), ← wantN_set 10 5 u (2 * u), HZz.out]
                  have := HA2.out.set m z
                  rw [HM5.out] at this ⊢
                  exact this)
                have HN5 := Lib.hid (show Below w2.heap.size w2 W5 from by rw [hW5]; exact HNt.out.setCell HG4.out.2 _)
                clear hW5
                go_wp2_with fail
                go_roundg k2
                case measure => have := HQ'.out; omega
                case rel => exact ⟨m + 1, by go_num, Lib.hid (by have := HQ'.out; omega), HA5, HN5⟩
              · rw [if_neg h5] at k1
                have HM5 := Lib.hid h5
                clear h5 hlt HQ
                go_wp2_with fail
                clear k1 k2'
                refine exit_at fun W5 hW5 => ?_
                have HA5 := Lib.hid (show AB .u64 64 gw4 (wantN 10 5 (if 5 < m + 1 then 2 * u else u)) W5 from by
                  rw [hW5]
                  have := HA.out.set m 0
                  rw [wantN_other (by decide) HM5.out] at this
                  have e : (if 5 < m + 1 then 2 * u else u) = (if 5 < m then 2 * u else u) := by
                    have := HM5.out
                    by_cases h : 5 < m
                    · rw [if_pos h, if_pos (by omega)]
                    · rw [if_neg h, if_neg (by omega)]
                  rw [e]
                  exact this)
                have HN5 := Lib.hid (show Below w2.heap.size w2 W5 from by rw [hW5]; exact HNt.out.setCell HG4.out.2 _)
                clear hW5
                go_wp2_with fail
                go_roundg k2
                case measure => have := HQ'.out; omega
                case rel => exact ⟨m + 1, by go_num, Lib.hid (by have := HQ'.out; omega), HA5, HN5⟩
            · obtain rfl : m = 10 := by have := HQ.out; omega
              have HA5 := Lib.hid (show AB .u64 64 gw4 (wantN 10 5 (p * 2 ^ (i + 1))) wr from by rw [HY2.out]; have := HA.out; rwa [if_pos (by decide)] at this)
              clear hlt HQ HA
              go_wp2_with fail
              go_roundg k
              case measure => have := HJ'.out; omega
              case rel => exact ⟨i + 1, by go_num, Lib.hid (by have := HJ'.out; omega), HA5, HNt⟩
      · obtain rfl : i = 4 := by have := HJ.out; omega
        have hvw : val (wantN 10 5 (p * 2 ^ 4)) = p * 2 ^ 64 := by
          rw [wantN_val (by decide), Nat.mul_assoc]
        obtain ⟨T, hT⟩ : ∃ T, p * 2 ^ 64 = T := ⟨_, rfl⟩
        have hTl : T < 4096 ^ 10 := by
          rw [← hT]
          exact Nat.lt_of_le_of_lt (Nat.mul_le_mul_right _ HP.out) (by decide)
        have HTl := Lib.hid hTl
        rw [hT] at hvw
        have hrow := rowK HAw.out (by rw [wantN_len]; decide)
        rw [wantN_len] at hrow
        have hq := carried_any (wantN 10 5 (p * 2 ^ 4)) 10 (some ⟨gw4, 0, none⟩) 10 wr (wantN_len _ _ _) hrow (by decide) (wantN_lt (by decide) (Nat.lt_of_le_of_lt (Nat.mul_le_mul_right _ HP.out) (by decide))) (by rw [hvw]; exact hTl)
        rw [hvw] at hq
        have HQ := Lib.hid hq
        have HR1 := Lib.hid (show decide (M ≤ T) = r from by rw [← hT]; exact HR0.out)
        have HRn2 := Lib.hid (show (Kd.int .u64).R 64 wr w.heap.size (fun _ => True) (.slice A2 8 c2) (nat (digs 8 M)) from Kd.R_below HRn.out HNt.out)
        have HRn1 := Lib.hid (show (Kd.int .u64).R 64 w2 w.heap.size (fun _ => True) (.slice A2 8 c2) (nat (digs 8 M)) from HRn.out)
        have HBr := Lib.hid (HB2.out.trans (HNt.out.mono HB2.out.size))
        have HNs := Lib.hid HNt.out.size
        clear hlt HJ hT hvw hTl hrow hq HRn HAw HR0 HNt
        go_wp2_with fail
        refine HQ.out.mono ?_
        rintro e w6 ⟨v6, rfl, hr6, hb6⟩
        obtain ⟨A6, c6, hv6, hc6, hC6⟩ := Kd.R_reads hr6
        rw [nat_length, digs_length] at hv6
        subst hv6
        have HR6 := Lib.hid hr6
        have HAp := Lib.hid (Ap_older HRn1.out hr6 HNs.out)
        have HRn6 := Lib.hid (Kd.R_below HRn2.out hb6)
        have HB6 := Lib.hid (HBr.out.trans (hb6.mono HBr.out.size))
        obtain ⟨B6, hB6⟩ : ∃ B, wr.heap.size = B := ⟨_, rfl⟩
        rw [hB6] at HR6
        clear hr6 hb6 hc6 hC6 HQ HRn2 HBr HRn1 hB6
        go_wp2_with fail
        go_loopg [8] 3 (fun g v8 w' => ∃ (q : Nat) (A : Option Addr) (c : Nat), v8 = .slice A q c ∧ Hid (8 ≤ q ∧ q ≤ 10 ∧ 10 < g + q) ∧ Hid ((Kd.int .u64).R 64 w' w.heap.size (fun _ => True) (.slice A q c) (nat (digs q M))) ∧ Hid ((Kd.int .u64).R 64 w' B6 (fun _ => True) (.slice A6 10 c6) (nat (digs 10 T))) ∧ Hid (Q.Ap (.slice A q c) (.slice A6 10 c6)) ∧ Hid (Below w.heap.size w w'))
        case atStart => exact ⟨8, A2, c2, rfl, Lib.hid ⟨by omega, by omega, by omega⟩, HRn6, HR6, HAp, HB6⟩
        case round =>
          obtain ⟨q, A, c, rfl, HQ, HN, HW, HAp2, HB⟩ := hrel
          clear HRn6 HR6 HAp HB6
          cases gk with
          | zero => have := HQ.out; omega
          | succ k3 =>
            by_cases hlt : q < 10
            · have HQ' := Lib.hid (show 8 ≤ q ∧ q < 10 ∧ 10 < (k3 + 1) + q from ⟨HQ.out.1, hlt, HQ.out.2.2⟩)
              have HZ := Lib.hid (show nat (digs (q + 1) M) = nat (digs q M) ++ [0] from by
                rw [digs_zero (Nat.lt_of_lt_of_le HX2.out (Nat.pow_le_pow_right (by decide) HQ.out.1)), nat_app]
                rfl)
              have HLn := Lib.hid (show (nat (digs q M)).length = q from by rw [nat_length, digs_length])
              have x0 : (q : Int) < 10 := by omega
              have x1 : decide (q < 10) = true := decide_eq_true hlt
              have x2 : decide ((q : Int) < 10) = true := decide_eq_true x0
              clear hlt HQ
              go_wp2_with (at_builtin; refine app1a (w0 := w) .u64 w.heap.size (.tmp 69) (.tmp 70) 154 64 8 rfl rfl Try.underlying154 info_u64 (by decide) (.slice A q c) (nat (digs q M)) 0 rfl rfl HN.out HB.out HB.out.size (by have := HLn.out; have := HQ'.out; omega) ?_; intro v8 w8 hr8 hb8 hg8 hat8; (have HR8 := Lib.hid hr8); (have HB8 := Lib.hid hb8); (have HG8 := Lib.hid hg8); (have HAt8 := Lib.hid hat8); clear hr8 hb8 hg8 hat8)
              have hr8 := HR8.out
              rw [← HZ.out] at hr8
              have hap8 := HAp2.out.step (W := wr) HAt8.out (Kd.R_lt HW.out)
              have hw8 := Q.R_apart HW.out HAp2.out.symm HG8.out
              obtain ⟨A8, c8, hv8, hc8, hC8⟩ := Kd.R_reads hr8
              rw [nat_length, digs_length] at hv8
              subst hv8
              have HR9 := Lib.hid hr8
              have HAp9 := Lib.hid hap8
              have HW9 := Lib.hid hw8
              clear hr8 hap8 hw8 hc8 hC8 HR8 HG8 HAt8
              go_roundg k3
              case measure => have := HQ'.out; omega
              case rel => exact ⟨q + 1, A8, c8, rfl, Lib.hid (by have := HQ'.out; omega), HR9, HW9, HAp9, HB8⟩
            · obtain rfl : q = 10 := by have := HQ.out; omega
              have HCn := Lib.hid (show (Kd.int .u64).C wr A (digs 10 M).length (nat (digs 10 M)) from by have := (Kd.R_reads' HN.out).2.2; rwa [nat_length] at this)
              have HCw := Lib.hid (show (Kd.int .u64).C wr A6 (digs 10 T).length (nat (digs 10 T)) from by have := (Kd.R_reads' HW.out).2.2; rwa [nat_length] at this)
              have HCm := Lib.hid (Cmp.start (N := 10) (a := M) (b := T) (Nat.lt_of_lt_of_le HX2.out (Nat.pow_le_pow_right (by decide) (by decide))) HTl.out)
              clear hlt HQ HN HW HAp2
              go_wp2_with fail
              go_loopg [13] 11 (fun g v13 w' => ∃ (i : Nat) (I : Int), v13 = .int .i64 I ∧ Hid (I = (i : Int) - 1) ∧ Hid (i ≤ 10 ∧ i < g) ∧ Hid (Cmp 10 M T i) ∧ Hid ((Kd.int .u64).C w' A (digs 10 M).length (nat (digs 10 M))) ∧ Hid ((Kd.int .u64).C w' A6 (digs 10 T).length (nat (digs 10 T))) ∧ Hid (Below w.heap.size w w'))
              case atStart => exact ⟨10, _, rfl, Lib.hid (by decide), Lib.hid ⟨by omega, by omega⟩, HCm, HCn, HCw, HB⟩
              case round =>
                obtain ⟨i, I, rfl, HI, HQ, HCm, HCn, HCw, HB⟩ := hrel
                cases gk with
                | zero => have := HQ.out; omega
                | succ k4 =>
                  cases i with
                  | zero =>
                    obtain rfl : I = -1 := by have := HI.out; omega
                    have HRt := Lib.hid (show r = true from by rw [← HR1.out]; exact HCm.out.stop)
                    clear HCm HQ HI
                    go_wp2_with fail
                    go_ret
                    exact ⟨by rw [HRt.out]; rfl, HB.out⟩
                  | succ j =>
                    obtain rfl : I = (j : Int) := by have := HI.out; omega
                    have hj : j < 10 := by have := HQ.out; omega
                    have hz : ∀ X, 0 < (digs 10 X).length := fun X => by rw [digs_length]; decide
                    obtain ⟨bn, on, rfl, hbn, hcn⟩ := B_at HCn.out (hz _)
                    obtain ⟨bw, ow, rfl, hbw, hcw⟩ := B_at HCw.out (hz _)
                    have p1 := hcn j (by rw [digs_length]; exact hj)
                    have p2 := hcw j (by rw [digs_length]; exact hj)
                    rw [digs_get _ _ _ hj] at p1 p2
                    have HSame := Lib.hid (fun h => HCm.out.same h)
                    have HLess := Lib.hid (fun h => HCm.out.less h)
                    obtain ⟨da, hda⟩ : ∃ d, M / 4096 ^ j % 4096 = d := ⟨_, rfl⟩
                    obtain ⟨db, hdb⟩ : ∃ d, T / 4096 ^ j % 4096 = d := ⟨_, rfl⟩
                    rw [hda] at p1 HSame HLess
                    rw [hdb] at p2 HSame HLess
                    have x0 : (0 : Int) ≤ (j : Int) := by omega
                    have x1 : (j : Int) < 10 := by omega
                    have HQ' := Lib.hid (show j + 1 ≤ 10 ∧ j + 1 < k4 + 1 from HQ.out)
                    by_cases he : da = db
                    · subst he
                      have HCm2 := Lib.hid (HSame.out rfl)
                      have t1 : ((da : Int) != (da : Int)) = false := by rw [bne_self_eq_false]
                      have t2 : (da != da) = false := by rw [bne_self_eq_false]
                      clear hda hdb hbn hbw hcn hcw hj hz HQ HCm HSame HLess HI
                      go_wp2_with fail
                      go_roundg k4
                      case measure => have := HQ'.out; omega
                      case rel => exact ⟨j, _, rfl, Lib.hid (by omega), Lib.hid (by have := HQ'.out; omega), HCm2, HCn, HCw, HB⟩
                    · have t1 : ((da : Int) != (db : Int)) = true := by rw [bne_iff_ne]; omega
                      have t2 : (da != db) = true := by rw [bne_iff_ne]; exact he
                      have hrr := HLess.out he
                      rw [HR1.out] at hrr
                      have HRr := Lib.hid hrr
                      clear hda hdb hbn hbw hcn hcw hj hz HQ HCm HSame HLess HI hrr
                      by_cases hl : da < db
                      · have HRt := Lib.hid (show r = true from by rw [← HRr.out]; exact decide_eq_true hl)
                        have t3 : (da : Int) < (db : Int) := by omega
                        have t4 : decide ((da : Int) < (db : Int)) = true := decide_eq_true t3
                        have t5 : decide (da < db) = true := decide_eq_true hl
                        clear hl he
                        go_wp2_with fail
                        go_ret
                        exact ⟨by rw [HRt.out]; rfl, HB.out⟩
                      · have HRt := Lib.hid (show r = false from by rw [← HRr.out]; exact decide_eq_false hl)
                        have t3 : ¬ (da : Int) < (db : Int) := by omega
                        have t4 : decide ((da : Int) < (db : Int)) = false := decide_eq_false t3
                        have t5 : decide (da < db) = false := decide_eq_false hl
                        clear hl he
                        go_wp2_with fail
                        go_ret
                        exact ⟨by rw [HRt.out]; rfl, HB.out⟩
set_option maxRecDepth 100000 in
set_option maxHeartbeats 6400000 in
theorem under_three (x p : Nat) (w : World) (hx : x < 137438953472) (hp : p ≤ 1000) :
    Calls Try.prog 80 #[.int .u64 (x : Int), .int .u64 (p : Int), .bool true] w fun e w' => e = .returned (.bool (undN true p x)) ∧ Below w.heap.size w w' := by
  obtain ⟨r, hr⟩ : ∃ r, undN true p x = r := ⟨_, rfl⟩
  have HR0 := Lib.hid (show decide (x * x * x ≤ p * 2 ^ 96) = r from hr)
  have hX : val [x % 4096, x / 4096 % 4096, x / 16777216 % 4096, x / 68719476736] = x := val4 x
  obtain ⟨d0, h0⟩ : ∃ d, x % 4096 = d := ⟨_, rfl⟩
  obtain ⟨x1, hx1⟩ : ∃ d, x / 4096 = d := ⟨_, rfl⟩
  obtain ⟨d1, h1⟩ : ∃ d, x1 % 4096 = d := ⟨_, rfl⟩
  obtain ⟨x2, hx2⟩ : ∃ d, x / 16777216 = d := ⟨_, rfl⟩
  obtain ⟨d2, h2⟩ : ∃ d, x2 % 4096 = d := ⟨_, rfl⟩
  obtain ⟨d3, h3⟩ : ∃ d, x / 68719476736 = d := ⟨_, rfl⟩
  rw [h0, hx1, h1, hx2, h2, h3] at hX
  have q0 : (x : Int) % 4096 = (d0 : Int) := by omega
  have q1 : (x : Int) / 4096 = (x1 : Int) := by omega
  have q2 : (x1 : Int) % 4096 = (d1 : Int) := by omega
  have q3 : (x : Int) / 16777216 = (x2 : Int) := by omega
  have q4 : (x2 : Int) % 4096 = (d2 : Int) := by omega
  have q5 : (x : Int) / 68719476736 = (d3 : Int) := by omega
  have z0 : (x : Int) < 137438953472 := by omega
  have z1 : (0 : Int) ≤ (x : Int) := by omega
  have z2 : (p : Int) ≤ 1000 := by omega
  have z3 : (0 : Int) ≤ (p : Int) := by omega
  have z4 : (0 : Int) ≤ (x1 : Int) := by omega
  have z5 : (0 : Int) ≤ (x2 : Int) := by omega
  have hD8 : ∀ y ∈ [d0, d1, d2, d3], y < 4096 := by
    intro y hy
    simp only [List.mem_cons, List.not_mem_nil, or_false] at hy
    rcases hy with rfl | rfl | rfl | rfl <;> omega
  have HX := Lib.hid hX
  have HD8 := Lib.hid hD8
  have HP := Lib.hid hp
  have HXl := Lib.hid hx
  rw [hr]
  clear hr h0 hx1 h1 hx2 h2 h3 hX hD8 hp hx
  have hmk := make_u64 14 14 rfl (by decide)
  go_enter Try.func80, Try.ntmps80
  go_wp2_with fail
  refine calls_at fun W1 hW1 => ?_
  have HA1 := Lib.hid (show AB .u64 64 w.heap.size [d0, d1, d2, d3] W1 from by rw [hW1]; exact AB.mk w .u64 64 _)
  have HB1 := Lib.hid (show Below w.heap.size w W1 from by rw [hW1]; exact (Below.refl _ _).alloc (Nat.le_refl _) _)
  have hrow := rowK HA1.out (show 4 ≤ maxLen by decide)
  have hq := mul_any [d0, d1, d2, d3] [d0, d1, d2, d3] 4 4 (some ⟨w.heap.size, 0, none⟩) (some ⟨w.heap.size, 0, none⟩) 4 4 W1 rfl rfl hrow hrow HD8.out HD8.out (by decide) (by decide)
  rw [HX.out] at hq
  have HQ := Lib.hid hq
  have HS1 := Lib.hid (show w.heap.size < W1.heap.size from HA1.out.lt)
  clear hW1 hrow hq q0 q1 q2 q3 q4 q5 z4 z5
  refine HQ.out.mono ?_
  rintro e w2 ⟨v2, rfl, hr2, hb2⟩
  have HB2 := Lib.hid (HB1.out.trans (hb2.mono HB1.out.size))
  have HR2 := Lib.hid hr2
  have HS2 := Lib.hid hb2.size
  have HA2 := Lib.hid (HA1.out.below HA1.out.lt hb2)
  obtain ⟨A2, c2, hv2, hc2, hC2⟩ := Kd.R_reads hr2
  rw [nat_length, digs_length] at hv2 hC2
  subst hv2
  have HC2 := Lib.hid hC2
  have HX2 := Lib.hid (show x * x < 4096 ^ 8 from Nat.lt_of_lt_of_le (Nat.mul_lt_mul'' HXl.out HXl.out) (by decide))
  have HN2 := Lib.hid (digs_length 8 (x * x))
  clear hr2 hb2 hc2 hC2 HQ
  have hrow := rowK HA2.out (show 4 ≤ maxLen by decide)
  have hq := mul_any (digs 8 (x * x)) [d0, d1, d2, d3] 8 4 A2 (some ⟨w.heap.size, 0, none⟩) c2 4 w2 HN2.out rfl HC2.out hrow (digs_lt _ _) HD8.out (by decide) (by decide)
  rw [HX.out, val_digs _ _ HX2.out] at hq
  have HQ := Lib.hid hq
  clear hq hrow
  go_wp2_with fail
  refine HQ.out.mono ?_
  rintro e w3 ⟨v3, rfl, hr3, hb3⟩
  have HB3 := Lib.hid (HB2.out.trans (hb3.mono HB2.out.size))
  have HR3 := Lib.hid hr3
  have HS3 := Lib.hid (Nat.le_trans HS2.out hb3.size)
  obtain ⟨A3, c3, hv3, hc3, hC3⟩ := Kd.R_reads hr3
  rw [nat_length, digs_length] at hv3 hC3
  subst hv3
  have HX3 := Lib.hid (show x * x * x < 4096 ^ 12 from Nat.lt_of_lt_of_le (Nat.mul_lt_mul'' (Nat.mul_lt_mul'' HXl.out HXl.out) HXl.out) (by decide))
  have HRn := Lib.hid (Kd.R_lower HR3.out (Nat.le_trans (Nat.le_of_lt HS1.out) HS2.out))
  clear hr3 hb3 hc3 hC3 HQ HR2 HR3 HC2 HX2 HN2 HA2 HA1 HB1 HB2 HS2
  obtain ⟨M, hM⟩ : ∃ M, x * x * x = M := ⟨_, rfl⟩
  rw [hM] at HR0 HX3 HRn
  clear hM
  have HWs := Lib.hid (show w.heap.size ≤ w3.heap.size from Nat.le_trans (Nat.le_of_lt HS1.out) HS3.out)
  go_upto_region 8 with (fail)
  refine wp_at fun W3 hW3 => ?_
  obtain ⟨gw4, hgw4⟩ : ∃ g, w3.heap.size = g := ⟨_, rfl⟩
  have haw := show AB .u64 64 gw4 (List.replicate 14 0) W3 from by rw [hW3, ← hgw4]; exact AB.mk w3 .u64 64 (List.replicate 14 0)
  have hb3 := show Below w3.heap.size w3 W3 from by rw [hW3]; exact (Below.refl _ _).alloc (Nat.le_refl _) _
  have HAw3 := Lib.hid haw
  have HNt3 := Lib.hid hb3
  have HG4 := Lib.hid (show w.heap.size ≤ gw4 ∧ w3.heap.size ≤ gw4 from by have := HWs.out; omega)
  have k1 : W3.cell? ⟨gw4, 8, none⟩ = some (.int .u64 0) := haw.cell (i := 8) (by decide)
  have k2 : W3.frozen? ⟨gw4, 8, none⟩ = false := haw.fz 8
  try rw [hgw4]
  clear hW3 haw hb3 hmk hgw4
  go_wp2_with fail
  refine exit_at fun W4 hW4 => ?_
  have HAw := Lib.hid (show AB .u64 64 gw4 (wantN 14 8 p) W4 from by rw [hW4]; exact HAw3.out.set 8 p)
  have HNt := Lib.hid (show Below w3.heap.size w3 W4 from by rw [hW4]; exact HNt3.out.setCell HG4.out.2 _)
  have HB4 := Lib.hid (HB3.out.trans (HNt.out.mono HB3.out.size))
  clear hW4 k1 k2 HAw3 HNt3
  have HP2 := Lib.hid (show p * 2 ^ 0 = p from by rw [Nat.pow_zero, Nat.mul_one])
  have HAw0 := Lib.hid (show AB .u64 64 gw4 (wantN 14 8 (p * 2 ^ 0)) W4 from by rw [HP2.out]; exact HAw.out)
  clear HAw HP2
  go_loopg [11] 2 (fun g v11 w' => ∃ i : Nat, v11 = .int .i64 (i : Int) ∧ Hid (i ≤ 0 ∧ 0 < g + i) ∧ Hid (AB .u64 64 gw4 (wantN 14 8 (p * 2 ^ i)) w') ∧ Hid (Below w3.heap.size w3 w'))
  case atStart => exact ⟨0, rfl, Lib.hid ⟨by omega, by omega⟩, HAw0, HNt⟩
  case round =>
    obtain ⟨i, rfl, HJ, HAw, HNt⟩ := hrel
    clear HAw0
    cases gk with
    | zero => have := HJ.out; omega
    | succ k =>
      by_cases hlt : i < 0
      · omega
      · obtain rfl : i = 0 := by have := HJ.out; omega
        have hvw : val (wantN 14 8 (p * 2 ^ 0)) = p * 2 ^ 96 := by
          rw [wantN_val (by decide), Nat.mul_assoc]
        obtain ⟨T, hT⟩ : ∃ T, p * 2 ^ 96 = T := ⟨_, rfl⟩
        have hTl : T < 4096 ^ 14 := by
          rw [← hT]
          exact Nat.lt_of_le_of_lt (Nat.mul_le_mul_right _ HP.out) (by decide)
        have HTl := Lib.hid hTl
        rw [hT] at hvw
        have hrow := rowK HAw.out (by rw [wantN_len]; decide)
        rw [wantN_len] at hrow
        have hq := carried_any (wantN 14 8 (p * 2 ^ 0)) 14 (some ⟨gw4, 0, none⟩) 14 wr (wantN_len _ _ _) hrow (by decide) (wantN_lt (by decide) (Nat.lt_of_le_of_lt (Nat.mul_le_mul_right _ HP.out) (by decide))) (by rw [hvw]; exact hTl)
        rw [hvw] at hq
        have HQ := Lib.hid hq
        have HR1 := Lib.hid (show decide (M ≤ T) = r from by rw [← hT]; exact HR0.out)
        have HRn2 := Lib.hid (show (Kd.int .u64).R 64 wr w.heap.size (fun _ => True) (.slice A3 12 c3) (nat (digs 12 M)) from Kd.R_below HRn.out HNt.out)
        have HRn1 := Lib.hid (show (Kd.int .u64).R 64 w3 w.heap.size (fun _ => True) (.slice A3 12 c3) (nat (digs 12 M)) from HRn.out)
        have HBr := Lib.hid (HB3.out.trans (HNt.out.mono HB3.out.size))
        have HNs := Lib.hid HNt.out.size
        clear hlt HJ hT hvw hTl hrow hq HRn HAw HR0 HNt
        go_wp2_with fail
        refine HQ.out.mono ?_
        rintro e w6 ⟨v6, rfl, hr6, hb6⟩
        obtain ⟨A6, c6, hv6, hc6, hC6⟩ := Kd.R_reads hr6
        rw [nat_length, digs_length] at hv6
        subst hv6
        have HR6 := Lib.hid hr6
        have HAp := Lib.hid (Ap_older HRn1.out hr6 HNs.out)
        have HRn6 := Lib.hid (Kd.R_below HRn2.out hb6)
        have HB6 := Lib.hid (HBr.out.trans (hb6.mono HBr.out.size))
        obtain ⟨B6, hB6⟩ : ∃ B, wr.heap.size = B := ⟨_, rfl⟩
        rw [hB6] at HR6
        clear hr6 hb6 hc6 hC6 HQ HRn2 HBr HRn1 hB6
        go_wp2_with fail
        go_loopg [8] 3 (fun g v8 w' => ∃ (q : Nat) (A : Option Addr) (c : Nat), v8 = .slice A q c ∧ Hid (12 ≤ q ∧ q ≤ 14 ∧ 14 < g + q) ∧ Hid ((Kd.int .u64).R 64 w' w.heap.size (fun _ => True) (.slice A q c) (nat (digs q M))) ∧ Hid ((Kd.int .u64).R 64 w' B6 (fun _ => True) (.slice A6 14 c6) (nat (digs 14 T))) ∧ Hid (Q.Ap (.slice A q c) (.slice A6 14 c6)) ∧ Hid (Below w.heap.size w w'))
        case atStart => exact ⟨12, A3, c3, rfl, Lib.hid ⟨by omega, by omega, by omega⟩, HRn6, HR6, HAp, HB6⟩
        case round =>
          obtain ⟨q, A, c, rfl, HQ, HN, HW, HAp2, HB⟩ := hrel
          clear HRn6 HR6 HAp HB6
          cases gk with
          | zero => have := HQ.out; omega
          | succ k3 =>
            by_cases hlt : q < 14
            · have HQ' := Lib.hid (show 12 ≤ q ∧ q < 14 ∧ 14 < (k3 + 1) + q from ⟨HQ.out.1, hlt, HQ.out.2.2⟩)
              have HZ := Lib.hid (show nat (digs (q + 1) M) = nat (digs q M) ++ [0] from by
                rw [digs_zero (Nat.lt_of_lt_of_le HX3.out (Nat.pow_le_pow_right (by decide) HQ.out.1)), nat_app]
                rfl)
              have HLn := Lib.hid (show (nat (digs q M)).length = q from by rw [nat_length, digs_length])
              have x0 : (q : Int) < 14 := by omega
              have x1 : decide (q < 14) = true := decide_eq_true hlt
              have x2 : decide ((q : Int) < 14) = true := decide_eq_true x0
              clear hlt HQ
              go_wp2_with (at_builtin; refine app1a (w0 := w) .u64 w.heap.size (.tmp 69) (.tmp 70) 154 64 8 rfl rfl Try.underlying154 info_u64 (by decide) (.slice A q c) (nat (digs q M)) 0 rfl rfl HN.out HB.out HB.out.size (by have := HLn.out; have := HQ'.out; omega) ?_; intro v8 w8 hr8 hb8 hg8 hat8; (have HR8 := Lib.hid hr8); (have HB8 := Lib.hid hb8); (have HG8 := Lib.hid hg8); (have HAt8 := Lib.hid hat8); clear hr8 hb8 hg8 hat8)
              have hr8 := HR8.out
              rw [← HZ.out] at hr8
              have hap8 := HAp2.out.step (W := wr) HAt8.out (Kd.R_lt HW.out)
              have hw8 := Q.R_apart HW.out HAp2.out.symm HG8.out
              obtain ⟨A8, c8, hv8, hc8, hC8⟩ := Kd.R_reads hr8
              rw [nat_length, digs_length] at hv8
              subst hv8
              have HR9 := Lib.hid hr8
              have HAp9 := Lib.hid hap8
              have HW9 := Lib.hid hw8
              clear hr8 hap8 hw8 hc8 hC8 HR8 HG8 HAt8
              go_roundg k3
              case measure => have := HQ'.out; omega
              case rel => exact ⟨q + 1, A8, c8, rfl, Lib.hid (by have := HQ'.out; omega), HR9, HW9, HAp9, HB8⟩
            · obtain rfl : q = 14 := by have := HQ.out; omega
              have HCn := Lib.hid (show (Kd.int .u64).C wr A (digs 14 M).length (nat (digs 14 M)) from by have := (Kd.R_reads' HN.out).2.2; rwa [nat_length] at this)
              have HCw := Lib.hid (show (Kd.int .u64).C wr A6 (digs 14 T).length (nat (digs 14 T)) from by have := (Kd.R_reads' HW.out).2.2; rwa [nat_length] at this)
              have HCm := Lib.hid (Cmp.start (N := 14) (a := M) (b := T) (Nat.lt_of_lt_of_le HX3.out (Nat.pow_le_pow_right (by decide) (by decide))) HTl.out)
              clear hlt HQ HN HW HAp2
              go_wp2_with fail
              go_loopg [13] 15 (fun g v13 w' => ∃ (i : Nat) (I : Int), v13 = .int .i64 I ∧ Hid (I = (i : Int) - 1) ∧ Hid (i ≤ 14 ∧ i < g) ∧ Hid (Cmp 14 M T i) ∧ Hid ((Kd.int .u64).C w' A (digs 14 M).length (nat (digs 14 M))) ∧ Hid ((Kd.int .u64).C w' A6 (digs 14 T).length (nat (digs 14 T))) ∧ Hid (Below w.heap.size w w'))
              case atStart => exact ⟨14, _, rfl, Lib.hid (by decide), Lib.hid ⟨by omega, by omega⟩, HCm, HCn, HCw, HB⟩
              case round =>
                obtain ⟨i, I, rfl, HI, HQ, HCm, HCn, HCw, HB⟩ := hrel
                cases gk with
                | zero => have := HQ.out; omega
                | succ k4 =>
                  cases i with
                  | zero =>
                    obtain rfl : I = -1 := by have := HI.out; omega
                    have HRt := Lib.hid (show r = true from by rw [← HR1.out]; exact HCm.out.stop)
                    clear HCm HQ HI
                    go_wp2_with fail
                    go_ret
                    exact ⟨by rw [HRt.out]; rfl, HB.out⟩
                  | succ j =>
                    obtain rfl : I = (j : Int) := by have := HI.out; omega
                    have hj : j < 14 := by have := HQ.out; omega
                    have hz : ∀ X, 0 < (digs 14 X).length := fun X => by rw [digs_length]; decide
                    obtain ⟨bn, on, rfl, hbn, hcn⟩ := B_at HCn.out (hz _)
                    obtain ⟨bw, ow, rfl, hbw, hcw⟩ := B_at HCw.out (hz _)
                    have p1 := hcn j (by rw [digs_length]; exact hj)
                    have p2 := hcw j (by rw [digs_length]; exact hj)
                    rw [digs_get _ _ _ hj] at p1 p2
                    have HSame := Lib.hid (fun h => HCm.out.same h)
                    have HLess := Lib.hid (fun h => HCm.out.less h)
                    obtain ⟨da, hda⟩ : ∃ d, M / 4096 ^ j % 4096 = d := ⟨_, rfl⟩
                    obtain ⟨db, hdb⟩ : ∃ d, T / 4096 ^ j % 4096 = d := ⟨_, rfl⟩
                    rw [hda] at p1 HSame HLess
                    rw [hdb] at p2 HSame HLess
                    have x0 : (0 : Int) ≤ (j : Int) := by omega
                    have x1 : (j : Int) < 14 := by omega
                    have HQ' := Lib.hid (show j + 1 ≤ 14 ∧ j + 1 < k4 + 1 from HQ.out)
                    by_cases he : da = db
                    · subst he
                      have HCm2 := Lib.hid (HSame.out rfl)
                      have t1 : ((da : Int) != (da : Int)) = false := by rw [bne_self_eq_false]
                      have t2 : (da != da) = false := by rw [bne_self_eq_false]
                      clear hda hdb hbn hbw hcn hcw hj hz HQ HCm HSame HLess HI
                      go_wp2_with fail
                      go_roundg k4
                      case measure => have := HQ'.out; omega
                      case rel => exact ⟨j, _, rfl, Lib.hid (by omega), Lib.hid (by have := HQ'.out; omega), HCm2, HCn, HCw, HB⟩
                    · have t1 : ((da : Int) != (db : Int)) = true := by rw [bne_iff_ne]; omega
                      have t2 : (da != db) = true := by rw [bne_iff_ne]; exact he
                      have hrr := HLess.out he
                      rw [HR1.out] at hrr
                      have HRr := Lib.hid hrr
                      clear hda hdb hbn hbw hcn hcw hj hz HQ HCm HSame HLess HI hrr
                      by_cases hl : da < db
                      · have HRt := Lib.hid (show r = true from by rw [← HRr.out]; exact decide_eq_true hl)
                        have t3 : (da : Int) < (db : Int) := by omega
                        have t4 : decide ((da : Int) < (db : Int)) = true := decide_eq_true t3
                        have t5 : decide (da < db) = true := decide_eq_true hl
                        clear hl he
                        go_wp2_with fail
                        go_ret
                        exact ⟨by rw [HRt.out]; rfl, HB.out⟩
                      · have HRt := Lib.hid (show r = false from by rw [← HRr.out]; exact decide_eq_false hl)
                        have t3 : ¬ (da : Int) < (db : Int) := by omega
                        have t4 : decide ((da : Int) < (db : Int)) = false := decide_eq_false t3
                        have t5 : decide (da < db) = false := decide_eq_false hl
                        clear hl he
                        go_wp2_with fail
                        go_ret
                        exact ⟨by rw [HRt.out]; rfl, HB.out⟩
end Go.Proofs.Ytblnclooobggnaa.H

namespace Go.Proofs.Ytblnclooobggnaa.H
open Go.RowKit Go.Proofs.Ytblnclooobggnaa.L Go.Proofs.Ytblnclooobggnaa.N Go.Proofs.YtblnclooobggnaaW.PrintWords

theorem under_any (three : Bool) (x p : Nat) (w : World) (hx : x < 137438953472) (hp : p ≤ 1000) :
    Calls Try.prog 80 #[.int .u64 (x : Int), .int .u64 (p : Int), .bool three] w fun e w' => e = .returned (.bool (undN three p x)) ∧ Below w.heap.size w w' := by
  cases three
  · exact under_two x p w hx hp
  · exact under_three x p w hx hp
set_option maxRecDepth 100000 in
set_option maxHeartbeats 1600000 in
theorem root_any (three : Bool) (p : Nat) (w : World) (hp : p ≤ 1000) :
    Calls Try.prog 70 #[.int .u64 (p : Int), .bool three] w fun e w' => e = .returned (.int .u32 (rootN three p : Nat)) ∧ Below w.heap.size w w' := by
  obtain ⟨R, hR⟩ : ∃ R, bisN three p 37 0 137438953472 = R := ⟨_, rfl⟩
  obtain ⟨S, hS⟩ : ∃ S, R % 4294967296 = S := ⟨_, rfl⟩
  have HR := Lib.hid hR
  have hrn : rootN three p = S := by unfold rootN; rw [hR, hS]
  rw [hrn]
  have HU := Lib.hid (fun x W (h : x < 137438953472) => under_any three x p W h hp)
  have HS := Lib.hid hS
  have z1 : (p : Int) ≤ 1000 := by omega
  have z2 : (0 : Int) ≤ (p : Int) := by omega
  clear hR hS hrn hp
  go_enter Try.func70, Try.ntmps70
  go_wp2_with fail
  go_loopg [5, 6] 38 (fun g v5 v6 w' => ∃ f lo hi : Nat, v5 = .int .u64 (lo : Int) ∧ v6 = .int .u64 (hi : Int) ∧ Hid (bisN three p f lo hi = R) ∧ Hid (hi - lo ≤ 2 ^ f ∧ lo < hi ∧ hi ≤ 137438953472 ∧ f < g) ∧ Hid (Below w.heap.size w w'))
  case atStart => exact ⟨37, 0, 137438953472, rfl, rfl, HR, Lib.hid ⟨by decide, by decide, by decide, by decide⟩, Lib.hid (Below.refl _ _)⟩
  case round =>
    obtain ⟨f, lo, hi, rfl, rfl, HBs, HJ, HB⟩ := hrel
    clear HR
    cases gk with
    | zero => have := HJ.out; omega
    | succ k =>
      have y1 : (hi : Int) ≤ 137438953472 := by have := HJ.out; omega
      have y2 : (0 : Int) ≤ (lo : Int) := by omega
      have y3 : (lo : Int) < (hi : Int) := by have := HJ.out; omega
      by_cases hlt : lo + 1 < hi
      · cases f with
        | zero => have := HJ.out; omega
        | succ f =>
          obtain ⟨s, hs⟩ : ∃ s, lo + hi = s := ⟨_, rfl⟩
          obtain ⟨m, hm⟩ : ∃ m, s / 2 = m := ⟨_, rfl⟩
          have hbu := fun h => bis_up (three := three) (p := p) (f := f) hlt h
          have hbd := fun h => bis_down (three := three) (p := p) (f := f) hlt h
          rw [hs, hm] at hbu hbd
          have HJ' := Lib.hid (show hi - m ≤ 2 ^ f ∧ m - lo ≤ 2 ^ f ∧ lo < m ∧ m < hi ∧ hi ≤ 137438953472 ∧ f < k from by
            have h := HJ.out
            rw [Nat.pow_succ] at h
            omega)
          have hu := HU.out m wr (by have := HJ'.out; omega)
          have q1 : (lo : Int) + (hi : Int) = (s : Int) := by omega
          have q2 : (s : Int) / 2 = (m : Int) := by omega
          have q3 : (lo : Int) + 1 < (hi : Int) := by omega
          have q4 : (s : Int) ≤ 274877906944 := by omega
          have q5 : (0 : Int) ≤ (s : Int) := by omega
          cases hr : undN three p m with
          | true =>
            rw [hr] at hu
            have HBn := Lib.hid (show bisN three p f m hi = R from by rw [← hbu hr]; exact HBs.out)
            have HQ := Lib.hid hu
            clear hu hr hbu hbd hs hm hlt HJ HBs
            go_wp2_with fail
            refine HQ.out.mono ?_
            rintro e w2 ⟨rfl, hb2⟩
            have HB2 := Lib.hid (HB.out.trans (hb2.mono HB.out.size))
            clear hb2
            go_wp2_with fail
            go_roundg k
            case measure => have := HJ'.out; omega
            case rel => exact ⟨f, m, hi, rfl, rfl, HBn, Lib.hid (by have := HJ'.out; omega), HB2⟩
          | false =>
            rw [hr] at hu
            have HBn := Lib.hid (show bisN three p f lo m = R from by rw [← hbd hr]; exact HBs.out)
            have HQ := Lib.hid hu
            clear hu hr hbu hbd hs hm hlt HJ HBs
            go_wp2_with fail
            refine HQ.out.mono ?_
            rintro e w2 ⟨rfl, hb2⟩
            have HB2 := Lib.hid (HB.out.trans (hb2.mono HB.out.size))
            clear hb2
            go_wp2_with fail
            go_roundg k
            case measure => have := HJ'.out; omega
            case rel => exact ⟨f, lo, m, rfl, rfl, HBn, Lib.hid (by have := HJ'.out; omega), HB2⟩
      · have q3 : ¬ (lo : Int) + 1 < (hi : Int) := by omega
        have q4 : decide ((lo : Int) + 1 < (hi : Int)) = false := decide_eq_false q3
        have hR : lo = R := by rw [← HBs.out, bis_end hlt]
        have e1 : (lo : Int) % 4294967296 = (S : Int) := by have := HS.out; rw [← hR] at this; omega
        have q5 : (S : Int) < 4294967296 := by omega
        have q6 : (0 : Int) ≤ (S : Int) := by omega
        clear hR hlt HJ HBs HS
        go_wp2_with fail
        go_ret
        exact ⟨rfl, HB.out⟩

theorem take8_more {l : List Nat} {p : Nat} (h : l.length < 8) : (l ++ [p]).take 8 = l.take 8 ++ [p] := by
  rw [List.take_of_length_le (by simp; omega), List.take_of_length_le (by omega)]
theorem take8_same {l : List Nat} {p : Nat} (h : ¬ l.length < 8) : (l ++ [p]).take 8 = l.take 8 := by
  rw [List.take_append_of_le_length (by omega)]
def kP (p : Nat) : List Nat := (primesN p).map (rootN true)
def sP (p : Nat) : List Nat := ((primesN p).take 8).map (rootN false)
theorem kP_next {p : Nat} (h : primeN p = true) : kP (p + 1) = kP p ++ [rootN true p] := by unfold kP; rw [primesN, if_pos h, List.map_append]; rfl
theorem sP_next {p : Nat} (h : primeN p = true) (h8 : (kP p).length < 8) : sP (p + 1) = sP p ++ [rootN false p] := by
  unfold kP at h8
  rw [List.length_map] at h8
  unfold sP
  rw [primesN, if_pos h, take8_more h8, List.map_append]
  rfl
theorem sP_same {p : Nat} (h : primeN p = true) (h8 : ¬ (kP p).length < 8) : sP (p + 1) = sP p := by
  unfold kP at h8
  rw [List.length_map] at h8
  unfold sP
  rw [primesN, if_pos h, take8_same h8]
theorem kP_skip {p : Nat} (h : primeN p = false) : kP (p + 1) = kP p := by unfold kP; rw [primesN, if_neg (by rw [h]; decide)]
theorem sP_skip {p : Nat} (h : primeN p = false) : sP (p + 1) = sP p := by unfold sP; rw [primesN, if_neg (by rw [h]; decide)]
theorem sP_len (p : Nat) : (sP p).length = min 8 (kP p).length := by unfold sP kP; rw [List.length_map, List.length_take, List.length_map]
theorem kP_lt {p : Nat} (h : p < 312) : (kP p).length < 64 := by unfold kP; rw [List.length_map]; exact primes_lt h
theorem kP_all : kP 312 = kN := roots_k
theorem sP_all : sP 312 = begN := roots_s
theorem kP_two : kP 2 = [] := by decide
theorem sP_two : sP 2 = [] := by decide
set_option maxRecDepth 100000 in
set_option maxHeartbeats 6400000 in
theorem consts_any (w : World) : Calls Try.prog 53 #[] w fun e w' => ∃ v1 v2, e = .returned (.tuple #[v1, v2]) ∧ (Kd.int .u32).R 45 w' w.heap.size (fun _ => True) v1 (nat kN) ∧ (Kd.int .u32).R 45 w' w.heap.size (fun _ => True) v2 (nat begN) ∧ Below w.heap.size w w' := by
  have HK2 := Lib.hid kP_two
  have HS2 := Lib.hid sP_two
  go_enter Try.func53, Try.ntmps53
  go_wp2_with fail
  go_loopg [2, 3, 4] 311 (fun g v2 v3 v4 w' => ∃ p : Nat, v4 = .int .u64 (p : Int) ∧ Hid (p ≤ 312 ∧ 312 < g + p) ∧ Hid ((Kd.int .u32).R 45 w' w.heap.size (fun _ => True) v2 (nat (kP p))) ∧ Hid ((Kd.int .u32).R 45 w' w.heap.size (fun _ => True) v3 (nat (sP p))) ∧ Hid (Q.Ap v2 v3) ∧ Hid (Below w.heap.size w w'))
  case atStart => exact ⟨2, rfl, Lib.hid ⟨by omega, by omega⟩, Lib.hid (by rw [HK2.out]; exact Kd.R_nil _ _ _ _ _), Lib.hid (by rw [HS2.out]; exact Kd.R_nil _ _ _ _ _), Lib.hid (fun k h => by cases h), Lib.hid (Below.refl _ _)⟩
  case round =>
    obtain ⟨p, rfl, HJ, HK, HS, HA, HB⟩ := hrel
    clear HK2 HS2
    obtain ⟨A2, c2, hv2, hc2, hC2⟩ := Kd.R_reads HK.out
    obtain ⟨A3, c3, hv3, hc3, hC3⟩ := Kd.R_reads HS.out
    rw [nat_length] at hv2 hv3
    subst hv2
    subst hv3
    cases gk with
    | zero => have := HJ.out; omega
    | succ k =>
      have z1 : (p : Int) ≤ 312 := by have := HJ.out; omega
      have z2 : (0 : Int) ≤ (p : Int) := by omega
      have hls := sP_len p
      obtain ⟨m, hm⟩ : ∃ m, (sP p).length = m := ⟨_, rfl⟩
      by_cases hlt : p < 312
      · have HJ' := Lib.hid (show p < 312 ∧ 312 < (k + 1) + p from ⟨hlt, HJ.out.2⟩)
        have hn := kP_lt hlt
        have HPr := Lib.hid (prime_any p wr (by omega))
        cases hpr : primeN p with
        | false =>
          rw [hpr] at HPr
          have hk1 := kP_skip hpr
          have hs1 := sP_skip hpr
          have HK1 := Lib.hid (show (Kd.int .u32).R 45 wr w.heap.size (fun _ => True) (.slice A2 (kP p).length c2) (nat (kP (p + 1))) from by rw [hk1]; exact HK.out)
          have HS1 := Lib.hid (show (Kd.int .u32).R 45 wr w.heap.size (fun _ => True) (.slice A3 (sP p).length c3) (nat (sP (p + 1))) from by rw [hs1]; exact HS.out)
          obtain ⟨n, hnn⟩ : ∃ n, (kP p).length = n := ⟨_, rfl⟩
          rw [hnn] at hn HK1 HA
          rw [hm] at HS1 HA
          have t0 : (n : Int) < 64 := by omega
          have t1 : decide ((n : Int) < 64) = true := decide_eq_true t0
          have t2 : decide (n < 64) = true := decide_eq_true hn
          rw [hnn, hm]
          clear hpr hk1 hs1 hn hnn hm hls hlt HJ HK HS hc2 hC2 hc3 hC3
          go_wp2_with fail
          refine HPr.out.mono ?_
          rintro e w2 ⟨rfl, hw⟩
          rw [hw]
          clear hw w2 HPr
          go_wp2_with fail
          go_roundg k
          case measure => have := HJ'.out; omega
          case rel => exact ⟨p + 1, by go_num, Lib.hid (by have := HJ'.out; omega), HK1, HS1, HA, HB⟩
        | true =>
          rw [hpr] at HPr
          have HRt := Lib.hid (fun t W => root_any t p W (by omega))
          have HKx := Lib.hid (show nat (kP (p + 1)) = nat (kP p) ++ [((rootN true p : Nat) : Int)] from by rw [kP_next hpr, nat_app]; rfl)
          have HLk := Lib.hid (show (nat (kP p)).length < 64 from by rw [nat_length]; exact hn)
          have HLs := Lib.hid (show (nat (sP p)).length ≤ 8 from by rw [nat_length]; omega)
          obtain ⟨rk, hrk⟩ : ∃ r, rootN true p = r := ⟨_, rfl⟩
          rw [hrk] at HKx
          have HRk := Lib.hid (fun W => by have := HRt.out true W; rwa [hrk] at this)
          by_cases h8 : (kP p).length < 8
          · have HSx := Lib.hid (show nat (sP (p + 1)) = nat (sP p) ++ [((rootN false p : Nat) : Int)] from by rw [sP_next hpr h8, nat_app]; rfl)
            obtain ⟨rs, hrs⟩ : ∃ r, rootN false p = r := ⟨_, rfl⟩
            rw [hrs] at HSx
            have HRs := Lib.hid (fun W => by have := HRt.out false W; rwa [hrs] at this)
            obtain ⟨n, hnn⟩ : ∃ n, (kP p).length = n := ⟨_, rfl⟩
            rw [hnn] at hn HK HA h8 hls
            rw [hm] at HS HA hls
            have t0 : (n : Int) < 64 := by omega
            have t1 : decide ((n : Int) < 64) = true := decide_eq_true t0
            have t2 : decide (n < 64) = true := decide_eq_true hn
            have t3 : (m : Int) < 8 := by omega
            have t4 : decide ((m : Int) < 8) = true := decide_eq_true t3
            have t5 : decide (m < 8) = true := decide_eq_true (by omega)
            rw [hnn, hm]
            clear hpr hn hnn hm hls hlt HJ hc2 hC2 hc3 hC3 h8 hrk hrs HRt
            generalize nat (kP p) = K0 at *
            generalize nat (sP p) = S0 at *
            go_wp2_with fail
            refine HPr.out.mono ?_
            rintro e w2 ⟨rfl, hw⟩
            rw [hw]
            clear hw w2 HPr
            go_wp2_with fail
            refine (HRk.out _).mono ?_
            rintro e w3 ⟨rfl, hb3⟩
            have HK3 := Lib.hid (Kd.R_below HK.out hb3)
            have HS3 := Lib.hid (Kd.R_below HS.out hb3)
            have HB3 := Lib.hid (HB.out.trans (hb3.mono HB.out.size))
            clear hb3 HK HS HB HRk
            go_upto_region 7 with (at_builtin; refine app1a (w0 := w) .u32 w.heap.size (.tmp 13) (.tmp 16) 112 45 4 rfl rfl Try.underlying112 info_w32 (by decide) (.slice A2 n c2) K0 (rk : Int) rfl rfl HK3.out HB3.out HB3.out.size (by have := HLk.out; omega) ?_; intro v8 w8 hr8 hb8 hg8 hat8; (have HR8 := Lib.hid hr8); (have HB8 := Lib.hid hb8); (have HG8 := Lib.hid hg8); (have HAt8 := Lib.hid hat8); clear hr8 hb8 hg8 hat8)
            have HK8 := Lib.hid (show (Kd.int .u32).R 45 w8 w.heap.size (fun _ => True) v8 (nat (kP (p + 1))) from by rw [HKx.out]; exact HR8.out)
            have HS8 := Lib.hid (Q.R_apart HS3.out HA.out.symm HG8.out)
            have HA8 := Lib.hid (HA.out.step (W := w3) HAt8.out (Kd.R_lt HS3.out))
            clear HK3 HS3 HB3 HA HG8 HAt8 HR8 HKx
            go_wp2_with fail
            refine (HRs.out _).mono ?_
            rintro e w9 ⟨rfl, hb9⟩
            have HK9 := Lib.hid (Kd.R_below HK8.out hb9)
            have HS9 := Lib.hid (Kd.R_below HS8.out hb9)
            have HB9 := Lib.hid (HB8.out.trans (hb9.mono HB8.out.size))
            clear hb9 HK8 HS8 HB8 HRs
            go_wp2_with (at_builtin; refine app1a (w0 := w) .u32 w.heap.size (.tmp 21) (.tmp 24) 112 45 4 rfl rfl Try.underlying112 info_w32 (by decide) (.slice A3 m c3) S0 (rs : Int) rfl rfl HS9.out HB9.out HB9.out.size (by have := HLs.out; omega) ?_; intro v10 w10 hr10 hb10 hg10 hat10; (have HR10 := Lib.hid hr10); (have HB10 := Lib.hid hb10); (have HG10 := Lib.hid hg10); (have HAt10 := Lib.hid hat10); clear hr10 hb10 hg10 hat10)
            have HSa := Lib.hid (show (Kd.int .u32).R 45 w10 w.heap.size (fun _ => True) v10 (nat (sP (p + 1))) from by rw [HSx.out]; exact HR10.out)
            have HKa := Lib.hid (Q.R_apart HK9.out HA8.out HG10.out)
            have HAa := (HA8.out.symm.step (W := w9) HAt10.out (Kd.R_lt HK9.out)).symm
            have HAa := Lib.hid HAa
            clear HK9 HS9 HB9 HA8 HG10 HAt10 HR10 HSx
            go_roundg k
            case measure => have := HJ'.out; omega
            case rel => exact ⟨p + 1, by go_num, Lib.hid (by have := HJ'.out; omega), HKa, HSa, HAa, HB10⟩
          · have HSx := Lib.hid (show nat (sP (p + 1)) = nat (sP p) from by rw [sP_same hpr h8])
            obtain ⟨n, hnn⟩ : ∃ n, (kP p).length = n := ⟨_, rfl⟩
            rw [hnn] at hn HK HA h8 hls
            rw [hm] at HS HA hls
            have t0 : (n : Int) < 64 := by omega
            have t1 : decide ((n : Int) < 64) = true := decide_eq_true t0
            have t2 : decide (n < 64) = true := decide_eq_true hn
            have t3 : ¬ (m : Int) < 8 := by omega
            have t4 : decide ((m : Int) < 8) = false := decide_eq_false t3
            have t5 : decide (m < 8) = false := decide_eq_false (by omega)
            rw [hnn, hm]
            clear hpr hn hnn hm hls hlt HJ hc2 hC2 hc3 hC3 h8 hrk HRt
            generalize nat (kP p) = K0 at *
            generalize nat (sP p) = S0 at *
            go_wp2_with fail
            refine HPr.out.mono ?_
            rintro e w2 ⟨rfl, hw⟩
            rw [hw]
            clear hw w2 HPr
            go_wp2_with fail
            refine (HRk.out _).mono ?_
            rintro e w3 ⟨rfl, hb3⟩
            have HK3 := Lib.hid (Kd.R_below HK.out hb3)
            have HS3 := Lib.hid (Kd.R_below HS.out hb3)
            have HB3 := Lib.hid (HB.out.trans (hb3.mono HB.out.size))
            clear hb3 HK HS HB HRk
            go_wp2_with (at_builtin; refine app1a (w0 := w) .u32 w.heap.size (.tmp 13) (.tmp 16) 112 45 4 rfl rfl Try.underlying112 info_w32 (by decide) (.slice A2 n c2) K0 (rk : Int) rfl rfl HK3.out HB3.out HB3.out.size (by have := HLk.out; omega) ?_; intro v8 w8 hr8 hb8 hg8 hat8; (have HR8 := Lib.hid hr8); (have HB8 := Lib.hid hb8); (have HG8 := Lib.hid hg8); (have HAt8 := Lib.hid hat8); clear hr8 hb8 hg8 hat8)
            have HK8 := Lib.hid (show (Kd.int .u32).R 45 w8 w.heap.size (fun _ => True) v8 (nat (kP (p + 1))) from by rw [HKx.out]; exact HR8.out)
            have HS8 := Lib.hid (show (Kd.int .u32).R 45 w8 w.heap.size (fun _ => True) (.slice A3 m c3) (nat (sP (p + 1))) from by rw [HSx.out]; exact Q.R_apart HS3.out HA.out.symm HG8.out)
            have HA8 := Lib.hid (HA.out.step (W := w3) HAt8.out (Kd.R_lt HS3.out))
            clear HK3 HS3 HB3 HA HG8 HAt8 HR8 HKx HSx
            go_roundg k
            case measure => have := HJ'.out; omega
            case rel => exact ⟨p + 1, by go_num, Lib.hid (by have := HJ'.out; omega), HK8, HS8, HA8, HB8⟩
      · obtain rfl : p = 312 := by have := HJ.out; omega
        have HKe := Lib.hid (show (Kd.int .u32).R 45 wr w.heap.size (fun _ => True) (.slice A2 64 c2) (nat kN) from by have := HK.out; rwa [kP_all] at this)
        have HSe := Lib.hid (show (Kd.int .u32).R 45 wr w.heap.size (fun _ => True) (.slice A3 8 c3) (nat begN) from by have := HS.out; rwa [sP_all] at this)
        have e1 : (kP 312).length = 64 := by rw [kP_all]; rfl
        have e2 : (sP 312).length = 8 := by rw [sP_all]; rfl
        rw [e1, e2]
        clear e1 e2 HK HS HA hlt HJ hls hm hc2 hC2 hc3 hC3
        go_wp2_with fail
        exact bodyPost_ret (v := .tuple #[.slice A2 64 c2, .slice A3 8 c3]) (by simp [results, Try.results53]) rfl ⟨_, _, rfl, HKe.out, HSe.out, HB.out⟩
end Go.Proofs.Ytblnclooobggnaa.H

namespace Go.Proofs.Ytblnclooobggnaa.H
open Go.RowKit Go.Proofs.Ytblnclooobggnaa.L Go.Proofs.Ytblnclooobggnaa.N Go.Proofs.YtblnclooobggnaaW.PrintWords

theorem drop_cons' {l : List Nat} {k y : Nat} (h : k < l.length) (hy : l.getD k 0 = y) : nat (l.drop k) = [(y : Int)] ++ nat (l.drop (k + 1)) := by
  have e : l[k] = y := by rw [← hy]; simp [List.getD_eq_getElem?_getD, List.getElem?_eq_getElem h]
  rw [List.drop_eq_getElem_cons h, e]
  rfl
theorem take4 {l : List Nat} {n : Nat} (h : n + 4 ≤ l.length) : nat (l.take (n + 4)) = nat (l.take n) ++ nat [l.getD n 0, l.getD (n + 1) 0, l.getD (n + 2) 0, l.getD (n + 3) 0] := by
  rw [← nat_app]
  congr 1
  have e : ∀ i, i < l.length → l.take (i + 1) = l.take i ++ [l.getD i 0] := fun i hi => by
    rw [List.take_succ_eq_append_getElem hi]
    simp [List.getD_eq_getElem?_getD, List.getElem?_eq_getElem hi]
  rw [e (n + 3) (by omega), e (n + 2) (by omega), e (n + 1) (by omega), e n (by omega)]
  simp
theorem blocks_snoc (j : Nat) (s l : List Nat) : blocks (j + 1) s l = mixN (blocks j s l) ((l.drop (64 * j)).take 64) := by
  rw [blocks_add j 1 s l]
  rfl
theorem cut64 (l : List Nat) (i : Nat) : (l.take (i + 64)).drop i = (l.drop i).take 64 := by
  rw [List.drop_take, show i + 64 - i = 64 from by omega]
theorem pad_form (l : List Nat) : padN l l.length = (l ++ 128 :: List.replicate ((119 - l.length % 64) % 64) 0) ++ szN l.length := by
  unfold padN szN
  simp
set_option maxRecDepth 100000 in
set_option maxHeartbeats 12800000 in
theorem rwith_any (l : List Nat) (Al Ak As : Option Addr) (cl ck cs : Nat) (w : World) (hl : l.length ≤ 1000000) (hC : (Kd.int .u8).C w Al l.length (nat l)) (h8 : ∀ x ∈ l, x < 256) (hK : (Kd.int .u32).C w Ak 64 (nat kN)) (hS : (Kd.int .u32).C w As 8 (nat begN)) :
    Calls Try.prog 71 #[.slice Al l.length cl, .slice Ak 64 ck, .slice As 8 cs] w fun e w' => ∃ v, e = .returned v ∧ (Kd.int .u8).R 5 w' w.heap.size (fun _ => True) v (nat (shaN l)) ∧ Below w.heap.size w w' := by
  have HC := Lib.hid hC
  have HL := Lib.hid hl
  have H8 := Lib.hid h8
  have HK := Lib.hid hK
  have HS := Lib.hid hS
  have HPf := Lib.hid (pad_form l)
  have HSh := Lib.hid (rwith_eq l)
  have HSz := Lib.hid (szN_length l.length)
  have HSg := Lib.hid (fun k (h : k < 8) => szN_get l.length h)
  obtain ⟨ZZ, hZZ⟩ : ∃ Z, (119 - l.length % 64) % 64 = Z := ⟨_, rfl⟩
  have HZ := Lib.hid (show ZZ < 64 ∧ (l.length + 1 + ZZ) % 64 = 56 ∧ ∀ j, j < ZZ → (l.length + 1 + j) % 64 ≠ 56 from ⟨by omega, by omega, fun j hj => by omega⟩)
  rw [hZZ] at HPf
  have z0 : (l.length : Int) ≤ 1000000 := by omega
  clear hC hl h8 hK hS hZZ
  go_enter Try.func71, Try.ntmps71
  go_wp2_with (first
    | (at_builtin; refine appn (w0 := w) .u8 w.heap.size (.tmp 15) (.tmp 16) 41 5 1 rfl rfl Try.underlying41 info_u8 (by decide) (.slice none 0 0) [] (nat l) Al _ cl rfl rfl (Kd.R_nil _ _ _ _ _) HC.out (Below.refl _ _) (Nat.le_refl _) (by have := HL.out; simp; omega) ?_; intro v1 w2 ho2 hb2 _; (have HO2 := Lib.hid ho2); (have HB2 := Lib.hid hb2); clear ho2 hb2)
    | (at_builtin; refine app1 (w0 := w) .u8 w.heap.size (.tmp 18) (.tmp 19) 41 5 1 rfl rfl Try.underlying41 info_u8 (by decide) v1 ([] ++ nat l) 128 rfl rfl HO2.out HB2.out HB2.out.size (by have := HL.out; simp [nat_length]; omega) ?_; intro v2 w3 ho3 hb3 _; (have HO3 := Lib.hid ho3); (have HB3 := Lib.hid hb3); clear ho3 hb3))
  have HR0 := Lib.hid (show (Kd.int .u8).R 5 w3 w.heap.size (fun _ => True) v2 (nat (l ++ 128 :: List.replicate 0 0)) from by have h := HO3.out; rw [List.nil_append] at h; rw [nat_app]; exact h)
  clear HO2 HB2 HO3
  go_loopg [7] (ZZ + 1) (fun g v7 w' => ∃ j : Nat, Hid (j ≤ ZZ ∧ ZZ < g + j) ∧ Hid ((Kd.int .u8).R 5 w' w.heap.size (fun _ => True) v7 (nat (l ++ 128 :: List.replicate j 0))) ∧ Hid (Below w.heap.size w w'))
  case atStart => exact ⟨0, Lib.hid ⟨by omega, by omega⟩, HR0, HB3⟩
  case round =>
    obtain ⟨j, HJ, HR, HB⟩ := hrel
    clear HR0 HB3
    cases gk with
    | zero => have := HJ.out; omega
    | succ k =>
      have hR := HR.out
      obtain ⟨A2, c2, hv, hc2, hC2⟩ := Kd.R_reads hR
      subst hv
      obtain ⟨n, hn⟩ : ∃ n, (nat (l ++ 128 :: List.replicate j 0)).length = n := ⟨_, rfl⟩
      have hnn : l.length + 1 + j = n := by rw [← hn, nat_length]; simp; omega
      obtain ⟨m, hm⟩ : ∃ m, n % 64 = m := ⟨_, rfl⟩
      have q1 : (n : Int) % 64 = (m : Int) := by omega
      have q2 : (0 : Int) ≤ (m : Int) := by omega
      have q3 : (m : Int) < 64 := by omega
      have HNN := Lib.hid hnn
      have HNe := Lib.hid hn
      by_cases hlt : j < ZZ
      · have HJ' := Lib.hid (show j < ZZ ∧ ZZ < (k + 1) + j from ⟨hlt, HJ.out.2⟩)
        have h56 : m ≠ 56 := by have := HZ.out.2.2 j hlt; rw [hnn, hm] at this; exact this
        have t1 : ((m : Int) != 56) = true := by rw [bne_iff_ne]; omega
        have t2 : ((m : Int) == 56) = false := by rw [beq_eq_false_iff_ne]; omega
        have hnl : n ≤ 1000100 := by have := HZ.out.1; have := HL.out; omega
        have HRn := Lib.hid hR
        have HNl := Lib.hid hnl
        have q4 : (n : Int) ≤ 1000100 := by omega
        clear hC2 hc2 hR HR hm hn hnn h56 HJ hlt hnl
        rw [HNe.out] at HRn ⊢
        go_wp2_with (at_builtin; refine app1 (w0 := w) .u8 w.heap.size (.tmp 25) (.tmp 26) 41 5 1 rfl rfl Try.underlying41 info_u8 (by decide) (.slice A2 n c2) (nat (l ++ 128 :: List.replicate j 0)) 0 rfl rfl HRn.out HB.out HB.out.size (by rw [HNe.out]; have := HNl.out; omega) ?_; intro v4 w4 ho4 hb4 _; (have HO4 := Lib.hid ho4); (have HB4 := Lib.hid hb4); clear ho4 hb4)
        go_roundg k
        case measure => have := HJ'.out; omega
        case rel => exact ⟨j + 1, Lib.hid (by have := HJ'.out; omega), Lib.hid (by
          have h := HO4.out
          rw [show nat (l ++ 128 :: List.replicate j 0) ++ [0] = nat (l ++ 128 :: List.replicate (j + 1) 0) from by
            rw [List.replicate_succ', show l ++ 128 :: (List.replicate j 0 ++ [0]) = (l ++ 128 :: List.replicate j 0) ++ [0] from by simp, nat_app (l ++ 128 :: List.replicate j 0) [0]]
            rfl] at h
          exact h), HB4⟩
      · obtain rfl : j = ZZ := by have := HJ.out; omega
        have h56 : m = 56 := by have := HZ.out.2.1; rw [hnn, hm] at this; exact this
        have t1 : ((m : Int) != 56) = false := by rw [h56]; rfl
        have t2 : ((m : Int) == 56) = true := by rw [h56]; rfl
        have HRn := Lib.hid hR
        have hnl : n ≤ 1000100 := by have := HZ.out.1; have := HL.out; omega
        have HNl := Lib.hid hnl
        have q4 : (n : Int) ≤ 1000100 := by omega
        clear hC2 hc2 hR HR hm hn hnn h56 HJ hlt hnl
        rw [HNe.out] at HRn ⊢
        obtain ⟨N, hN⟩ : ∃ N, 8 * l.length = N := ⟨_, rfl⟩
        have e1 : (8 : Int) * (l.length : Int) = (N : Int) := by omega
        have HNv := Lib.hid hN
        clear hN
        go_wp2_with fail
        clear q1 q2 q3 t1 t2 e1
        have HSd := Lib.hid (show (szN l.length).drop 8 = [] from List.drop_eq_nil_of_le (by rw [HSz.out]; exact Nat.le_refl _))
        go_loopg [8, 9, 10] 9 (fun g v8 v9 v10 w' => ∃ i q : Nat, v10 = .int .i64 (i : Int) ∧ v8 = .int .u64 (q : Int) ∧ Hid (i ≤ 8 ∧ 8 < g + i) ∧ Hid (N / 256 ^ i = q) ∧ Hid ((Kd.int .u8).R 5 w' w.heap.size (fun _ => True) v9 (nat ((szN l.length).drop (8 - i)))) ∧ Hid ((Kd.int .u8).R 5 w' w.heap.size (fun _ => True) (.slice A2 n c2) (nat (l ++ 128 :: List.replicate j 0))) ∧ Hid (Below w.heap.size w w'))
        case atStart => exact ⟨0, N, rfl, rfl, Lib.hid ⟨by omega, by omega⟩, Lib.hid (by rw [Nat.pow_zero, Nat.div_one]), Lib.hid (by rw [HSd.out]; exact Kd.R_nil _ _ _ _ _), HRn, HB⟩
        case round =>
          obtain ⟨i, q, rfl, rfl, HQ, HE, HR9, HRn, HB⟩ := hrel
          cases gk with
          | zero => have := HQ.out; omega
          | succ k2 =>
            have hqb : q ≤ 8000000 := by have := HE.out; have h1 := HNv.out; have h2 := HL.out; have := Nat.div_le_self N (256 ^ i); omega
            by_cases hlt : i < 8
            · have HQ' := Lib.hid (show i < 8 ∧ 8 < (k2 + 1) + i from ⟨hlt, HQ.out.2⟩)
              obtain ⟨d, hd⟩ : ∃ d, q % 256 = d := ⟨_, rfl⟩
              obtain ⟨q2, hq2⟩ : ∃ d, q / 256 = d := ⟨_, rfl⟩
              have hdr := drop_cons' (l := szN l.length) (k := 7 - i) (y := d) (by rw [HSz.out]; omega) (by
                have h1 := HSg.out (7 - i) (by omega)
                rw [show 7 - (7 - i) = i from by omega, Nat.mul_comm, HNv.out, HE.out, hd] at h1
                exact h1)
              rw [show 7 - i + 1 = 8 - i from by omega] at hdr
              have HDr := Lib.hid (show nat ((szN l.length).drop (8 - (i + 1))) = [(d : Int)] ++ nat ((szN l.length).drop (8 - i)) from by rw [← hdr, show 8 - (i + 1) = 7 - i from by omega])
              have HE2 := Lib.hid (show N / 256 ^ (i + 1) = q2 from by rw [Nat.pow_succ, ← Nat.div_div_eq_div_mul, HE.out, hq2])
              have e1 : (q : Int) % 256 = (d : Int) := by omega
              have e2 : (q : Int) / 256 = (q2 : Int) := by omega
              have e3 : (q : Int) ≤ 8000000 := by omega
              have e4 : (0 : Int) ≤ (q : Int) := by omega
              have e5 : (d : Int) < 256 := by omega
              have e6 : (0 : Int) ≤ (d : Int) := by omega
              have e7 : (i : Int) < 8 := by omega
              obtain ⟨A9, c9, hv9, hc9, hC9⟩ := Kd.R_reads HR9.out
              obtain ⟨n9, hn9⟩ : ∃ n, (nat ((szN l.length).drop (8 - i))).length = n := ⟨_, rfl⟩
              rw [hn9] at hv9 hC9
              subst hv9
              have HC9 := Lib.hid hC9
              have hl9 : n9 ≤ 8 := by rw [← hn9, nat_length, List.length_drop, HSz.out]; omega
              have HL9 := Lib.hid hl9
              clear hlt HQ hqb hd hq2 hdr hc9 hC9 hn9 hl9
              generalize nat ((szN l.length).drop (8 - i)) = X at *
              go_wp2_with (at_builtin; refine appn (w0 := wr.alloc (.cells #[.int .u8 (d : Int)] 5)) .u8 w.heap.size (.tmp 39) (.tmp 40) 41 5 1 rfl rfl Try.underlying41 info_u8 (by decide) (.slice (some ⟨wr.heap.size, 0, none⟩) 1 1) [(d : Int)] X A9 n9 c9 rfl rfl (ownK (l := [d]) (AB.mk wr .u8 5 [d]) HB.out.size (show 1 ≤ maxLen by decide)) (Kd.C_alloc HC9.out _) (Below.refl _ _) (Nat.le_trans HB.out.size (by simp)) (by have := HL9.out; simp; omega) ?_; intro v5 w5 ho5 hb5 hg5; (have HO5 := Lib.hid ho5); (have HG5 := Lib.hid hg5); clear ho5 hb5 hg5)
              have h5 := below_new (show (wr.alloc _).grownBy w5 (some wr.heap.size) from HG5.out)
              have HB5 := Lib.hid h5.1
              clear h5
              have HR5 := Lib.hid (Kd.R_below HRn.out HB5.out)
              have HB55 := Lib.hid (HB.out.trans (HB5.out.mono HB.out.size))
              clear HG5 HB5
              go_roundg k2
              case measure => have := HQ'.out; omega
              case rel => exact ⟨i + 1, q2, by go_num, rfl, Lib.hid (by have := HQ'.out; omega), HE2, Lib.hid (by rw [HDr.out]; exact HO5.out), HR5, HB55⟩
            · obtain rfl : i = 8 := by have := HQ.out; omega
              clear hlt HQ HE hqb HSd
              obtain ⟨A9, c9, hv9, hc9, hC9⟩ := Kd.R_reads HR9.out
              rw [show 8 - 8 = 0 from rfl, List.drop_zero, nat_length, HSz.out] at hv9 hC9
              subst hv9
              have HC9 := Lib.hid hC9
              have HLn := Lib.hid (show (nat (l ++ 128 :: List.replicate j 0)).length = n from HNe.out)
              clear hc9 hC9 HR9
              go_wp2_with (at_builtin; refine appn (w0 := w) .u8 w.heap.size (.tmp 44) (.tmp 45) 41 5 1 rfl rfl Try.underlying41 info_u8 (by decide) (.slice A2 n c2) (nat (l ++ 128 :: List.replicate j 0)) (nat (szN l.length)) A9 8 c9 rfl rfl HRn.out HC9.out HB.out HB.out.size (by rw [HLn.out]; have := HNl.out; omega) ?_; intro v6 w6 ho6 hb6 _; (have HO6 := Lib.hid ho6); (have HB6 := Lib.hid hb6); clear ho6 hb6)
              have hP := HO6.out
              rw [← nat_app, ← HPf.out] at hP
              have hpl : (padN l l.length).length = n + 8 := by rw [HPf.out, List.length_append, HSz.out]; have := HLn.out; rw [nat_length] at this; omega
              have hp8 : ∀ x ∈ padN l l.length, x < 256 := by
                rw [padN_eq]; exact app_lt H8.out (endN_lt _ _)
              have h64 : (n + 8) % 64 = 0 := by have := HZ.out.2.1; have := HNN.out; omega
              obtain ⟨M, hM⟩ : ∃ M, (n + 8) / 64 = M := ⟨_, rfl⟩
              have hMe : n + 8 = 64 * M := by omega
              have HShh := Lib.hid (show outN (blocks M begN (padN l l.length)) = shaN l from by rw [← HSh.out]; unfold rwith; rw [hpl, hM])
              obtain ⟨T, hT⟩ : ∃ T, n + 8 = T := ⟨_, rfl⟩
              rw [hT] at hpl hMe
              obtain ⟨AP, cP, hvP, hcP, hCP⟩ := Kd.R_reads hP
              rw [nat_length, hpl] at hvP hCP hcP
              subst hvP
              have HCP := Lib.hid hCP
              have HcP := Lib.hid hcP
              have HPl := Lib.hid hpl
              have HP8 := Lib.hid hp8
              have HMe := Lib.hid (show T = 64 * M ∧ T ≤ 1000200 from ⟨hMe, by have := HNl.out; omega⟩)
              have HSw := Lib.hid (Kd.C_below HS.out HB6.out)
              have HB0 := Lib.hid (show blocks 0 begN (padN l l.length) = begN from rfl)
              have HBs := Lib.hid (fun j => blocks_snoc j begN (padN l l.length))
              have HBl := Lib.hid (fun j => blocks_length j (s := begN) (padN l l.length) begN_length)
              have HBt := Lib.hid (fun j => blocks_lt j (s := begN) (padN l l.length) begN_lt)
              have y0 : (T : Int) ≤ 1000200 := by have := HMe.out; omega
              generalize padN l l.length = PP at *
              clear hP hpl hp8 h64 hM hMe hT hcP hCP HO6 HRn HB HPf HSh
              go_loopg [11, 12] (M + 1) (fun g v11 v12 w' => ∃ (j I : Nat) (A : Option Addr) (c : Nat), v12 = .int .i64 (I : Int) ∧ v11 = .slice A 8 c ∧ Hid (I = 64 * j ∧ j ≤ M ∧ M < g + j) ∧ Hid ((Kd.int .u32).C w' A 8 (nat (blocks j begN PP))) ∧ Hid ((Kd.int .u8).C w' AP T (nat PP)) ∧ Hid (Below w.heap.size w w'))
              case atStart => exact ⟨0, 0, As, cs, rfl, rfl, Lib.hid ⟨by omega, by omega, by omega⟩, Lib.hid (by rw [HB0.out]; exact HSw.out), HCP, HB6⟩
              case round =>
                obtain ⟨j, I, A, c, rfl, rfl, HQ, HV, HCP, HB⟩ := hrel
                clear HSw HB0 HB6
                cases gk with
                | zero => have := HQ.out; omega
                | succ k3 =>
                  by_cases hlt : j < M
                  · have HQ' := Lib.hid (show I = 64 * j ∧ j < M ∧ M < (k3 + 1) + j from ⟨HQ.out.1, hlt, HQ.out.2.2⟩)
                    have hI : I + 64 ≤ T := by have := HMe.out; have := HQ.out; omega
                    obtain ⟨I2, hI2⟩ : ∃ x, I + 64 = x := ⟨_, rfl⟩
                    obtain ⟨Ac, cc, hcr, hcc, hcC⟩ := cutM AP T cP (I : Int) (I2 : Int) I I2 rfl rfl (by omega) (by omega) HcP.out
                    rw [show I2 - I = 64 from by omega] at hcr hcc hcC
                    have hcc64 : (Kd.int .u8).C wr Ac 64 (nat ((PP.drop (64 * j)).take 64)) := by
                      have h := hcC wr PP HCP.out
                      rw [← hI2, cut64, HQ.out.1] at h
                      exact h
                    have hq := rinto_any (blocks j begN PP) ((PP.drop (64 * j)).take 64) A Ac Ak c cc ck wr HV.out (HBl.out j) (HBt.out j) hcc64 (by rw [List.length_take, List.length_drop, HPl.out]; have := HQ.out; omega) (take_lt _ (drop_lt _ HP8.out)) (Kd.C_below HK.out HB.out)
                    rw [← HBs.out j] at hq
                    have HQr := Lib.hid hq
                    have x0 : (I : Int) < (T : Int) := by omega
                    have x1 : (0 : Int) ≤ (I : Int) := by omega
                    have x2 : (I : Int) + 64 = (I2 : Int) := by omega
                    have HI2 := Lib.hid (show I2 = 64 * (j + 1) from by have := HQ.out; omega)
                    clear hlt HQ hI hI2 hcc hcC hcc64 hq
                    go_wp2_with fail
                    refine HQr.out.mono ?_
                    rintro e w9 ⟨v9, rfl, hr9, hb9⟩
                    obtain ⟨A9, c9, hv9, hc9, hC9⟩ := Kd.R_reads hr9
                    rw [nat_length, HBl.out] at hv9 hC9
                    subst hv9
                    have HC9 := Lib.hid hC9
                    have HCP9 := Lib.hid (Kd.C_below HCP.out hb9)
                    have HB9 := Lib.hid (HB.out.trans (hb9.mono HB.out.size))
                    clear hr9 hb9 hc9 hC9 hcr HQr
                    go_wp2_with fail
                    go_roundg k3
                    case measure => have := HQ'.out; omega
                    case rel => exact ⟨j + 1, I2, A9, c9, rfl, rfl, Lib.hid (by have := HQ'.out; have := HI2.out; omega), HC9, HCP9, HB9⟩
                  · obtain rfl : j = M := by have := HQ.out; omega
                    have hIT : I = T := by have := HQ.out; have := HMe.out; omega
                    subst hIT
                    have HBl' := Lib.hid (HBl.out j)
                    have HBt' := Lib.hid (HBt.out j)
                    have HOl := Lib.hid (outN_length (HBl.out j))
                    have HOg := Lib.hid (fun i k (hi : i < 8) (hk : k < 4) => outN_get (v := blocks j begN PP) (i := i) (k := k) (by rw [HBl.out]; exact hi) hk)
                    generalize blocks j begN PP = V at *
                    clear hlt HQ HBl HBt HBs HCP
                    go_wp2_with fail
                    obtain ⟨wo, rfl⟩ : ∃ wo : World, wo = wr := ⟨_, rfl⟩
                    go_loopg [13, 14] 9 (fun g v13 v14 w' => ∃ i : Nat, v14 = .int .i64 (i : Int) ∧ Hid (i ≤ 8 ∧ 8 < g + i) ∧ Hid ((Kd.int .u8).R 5 w' wo.heap.size (fun _ => True) v13 (nat ((outN V).take (4 * i)))) ∧ Hid (Below wo.heap.size wo w'))
                    case atStart => exact ⟨0, rfl, Lib.hid ⟨by omega, by omega⟩, Lib.hid (Kd.R_nil _ _ _ _ _), Lib.hid (Below.refl _ _)⟩
                    case round =>
                      obtain ⟨i, rfl, HJ, HR, HBx⟩ := hrel
                      cases gk with
                      | zero => have := HJ.out; omega
                      | succ k4 =>
                        by_cases hlt : i < 8
                        · have HJ' := Lib.hid (show i < 8 ∧ 8 < (k4 + 1) + i from ⟨hlt, HJ.out.2⟩)
                          have hv := Kd.C_below HV.out HBx.out
                          rw [← HBl'.out] at hv
                          obtain ⟨bv, ov, rfl, hbv, hcv⟩ := B_at hv (by rw [HBl'.out]; decide)
                          have p0 := hcv i (by rw [HBl'.out]; exact hlt)
                          have hx := getD_lt (show i < V.length by rw [HBl'.out]; exact hlt) HBt'.out
                          have h4 := take4 (l := outN V) (n := 4 * i) (by rw [HOl.out]; omega)
                          have g0 := HOg.out i 0 hlt (by decide)
                          have g1 := HOg.out i 1 hlt (by decide)
                          have g2 := HOg.out i 2 hlt (by decide)
                          have g3 := HOg.out i 3 hlt (by decide)
                          obtain ⟨x, hxx⟩ : ∃ x, V.getD i 0 = x := ⟨_, rfl⟩
                          rw [hxx] at p0 hx g0 g1 g2 g3
                          obtain ⟨b0, hb0⟩ : ∃ y, x / 16777216 = y := ⟨_, rfl⟩
                          obtain ⟨c1, hc1⟩ : ∃ y, x / 65536 = y := ⟨_, rfl⟩
                          obtain ⟨b1, hb1⟩ : ∃ y, c1 % 256 = y := ⟨_, rfl⟩
                          obtain ⟨c2, hc2⟩ : ∃ y, x / 256 = y := ⟨_, rfl⟩
                          obtain ⟨b2, hb2⟩ : ∃ y, c2 % 256 = y := ⟨_, rfl⟩
                          obtain ⟨b3, hb3⟩ : ∃ y, x % 256 = y := ⟨_, rfl⟩
                          rw [g1, g2, g3, show (outN V).getD (4 * i) 0 = _ from g0, show x / 2 ^ (24 - 8 * 0) % 256 = b0 from by rw [← hb0]; show x / 16777216 % 256 = _; omega, show x / 2 ^ (24 - 8 * 1) % 256 = b1 from by rw [← hb1, ← hc1], show x / 2 ^ (24 - 8 * 2) % 256 = b2 from by rw [← hb2, ← hc2], show x / 2 ^ (24 - 8 * 3) % 256 = b3 from by rw [← hb3]; show x / 1 % 256 = _; rw [Nat.div_one]] at h4
                          have HT4 := Lib.hid (show nat ((outN V).take (4 * (i + 1))) = nat ((outN V).take (4 * i)) ++ nat [b0, b1, b2, b3] from h4)
                          have e0 : (x : Int) / 16777216 = (b0 : Int) := by omega
                          have e1 : (x : Int) / 65536 = (c1 : Int) := by omega
                          have e2 : (c1 : Int) % 256 = (b1 : Int) := by omega
                          have e3 : (x : Int) / 256 = (c2 : Int) := by omega
                          have e4 : (c2 : Int) % 256 = (b2 : Int) := by omega
                          have e5 : (x : Int) % 256 = (b3 : Int) := by omega
                          have y0 : (b0 : Int) < 256 := by omega
                          have y1 : (b1 : Int) < 256 := by omega
                          have y2 : (b2 : Int) < 256 := by omega
                          have y3 : (b3 : Int) < 256 := by omega
                          have y4 : (0 : Int) ≤ (x : Int) := by omega
                          have y5 : (i : Int) < 8 := by omega
                          have y6 : (0 : Int) ≤ (i : Int) := by omega
                          have y7 : (0 : Int) ≤ (c1 : Int) := by omega
                          have y8 : (0 : Int) ≤ (c2 : Int) := by omega
                          have qx := gw hbv p0
                          have HLo := Lib.hid (show (nat ((outN V).take (4 * i))).length ≤ 32 from by rw [nat_length, List.length_take, HOl.out]; omega)
                          have HRd := Lib.hid (Kd.R_below HR.out (stay0 wr))
                          have HBd := Lib.hid (show Below wo.heap.size wo wr.drew from HBx.out.drew)
                          clear hv hbv hcv p0 hx h4 g0 g1 g2 g3 hxx hb0 hc1 hb1 hc2 hb2 hb3 hlt HJ HR
                          generalize nat ((outN V).take (4 * i)) = X at *
                          go_wp2_with fail
                          refine Q.wp_region_segsG none [([0, 1, 2, 3, 4, 5, 6, 7, 8, 9, 10, 11, 12, 13, 14, 15, 16, 17, 18, 19, 20, 21, 22, 23, 24, 25, 26], some 27)] [] 28 [29] (by kernel_rfl) (by kernel_rfl) (by kernel_rfl) (by kernel_rfl) ?_
                          dsimp only [Q.wpSegsG, Q.picks, Q.pick]
                          repeat (go_big_quiet_step (fail))
                          refine wpQuiet_nil ?_
                          clear qx e0 e1 e2 e3 e4 e5
                          go_wp2_with fail
                          refine Q.ev_keep ((Below.refl _ _).alloc (Nat.le_refl _) _) (Nat.le_refl _) ?_
                          refine wpQuiet_nil ?_
                          refine appn (w0 := wo) .u8 wo.heap.size (.tmp 66) (.tmp 93) 41 5 1 rfl rfl Try.underlying41 info_u8 (by decide) u13 X (nat [b0, b1, b2, b3]) (some ⟨wr.drew.heap.size, 0, none⟩) 4 4 rfl rfl (Kd.R_below HRd.out ((Below.refl _ _).alloc (Nat.le_refl _) _)) (rowK (AB.mk wr.drew .u8 5 [b0, b1, b2, b3]) (show 4 ≤ maxLen by decide)) (HBd.out.alloc HBd.out.size _) (Nat.le_trans HBd.out.size (by simp)) (by have := HLo.out; omega) ?_
                          intro v8 w8 hr8 hb8 _
                          have HR8 := Lib.hid hr8
                          have HB8 := Lib.hid hb8
                          clear hr8 hb8
                          go_wp2_with fail
                          refine NoPanic.normal ?_
                          go_wp2_with fail
                          go_roundg k4
                          case measure => have := HJ'.out; omega
                          case rel => exact ⟨i + 1, by go_num, Lib.hid (by have := HJ'.out; omega), Lib.hid (by rw [HT4.out]; exact HR8.out), HB8⟩
                        · obtain rfl : i = 8 := by have := HJ.out; omega
                          have HRe := Lib.hid (show (Kd.int .u8).R 5 wr w.heap.size (fun _ => True) u13 (nat (shaN l)) from by have := Kd.R_lower HR.out HB.out.size; rwa [List.take_of_length_le (by rw [HOl.out]; decide), HShh.out] at this)
                          clear hlt HJ HR
                          go_wp2_with fail
                          go_ret
                          exact ⟨_, rfl, HRe.out, HB.out.trans (HBx.out.mono HB.out.size)⟩
end Go.Proofs.Ytblnclooobggnaa.H
