/-
  sha: the document's into.
-/
import Derived.Test.YtagfplcafeblbaaHx
namespace Go.Proofs.Ytagfplcafeblbaa.H
open Go.RowKit Go.Proofs.Ytagfplcafeblbaa.L Go.Proofs.Ytagfplcafeblbaa.N Go.Proofs.YtagfplcafeblbaaW.PrintWords

theorem list8 {l : List Nat} (h : l.length = 8) : ∃ a b c d e f g i, l = [a, b, c, d, e, f, g, i] := by
  match l, h with
  | [a, b, c, d, e, f, g, i], _ => exact ⟨a, b, c, d, e, f, g, i, rfl⟩
theorem rrnd_len (v : List Nat) (k x : Nat) : (rrnd v k x).length = 8 := rfl
theorem rrounds_len {w v : List Nat} (h : v.length = 8) : ∀ i, (rrounds w i v).length = 8
  | 0 => h
  | _ + 1 => rfl
theorem rrnd_lt {v : List Nat} (k x : Nat) (h : ∀ y ∈ v, y < 4294967296) : ∀ y ∈ rrnd v k x, y < 4294967296 := by
  rw [rrnd_eq k x h]
  exact rnd_lt k x h
theorem rrounds_lt {w v : List Nat} (h : ∀ y ∈ v, y < 4294967296) : ∀ i, ∀ y ∈ rrounds w i v, y < 4294967296
  | 0 => h
  | i + 1 => rrnd_lt _ _ (rrounds_lt h i)
theorem into_t (v4 v5 v6 v7 k x : Nat) (h4 : v4 < 4294967296) (h5 : v5 < 4294967296) (h6 : v6 < 4294967296) : ∃ x1 x2 s1 y1 ne y2 y3 s2 s3 s4 : Nat, bits .xor .u32 ((rot v4 6 : Nat) : Int) ((rot v4 11 : Nat) : Int) = (x1 : Int) ∧ bits .xor .u32 (x1 : Int) ((rot v4 25 : Nat) : Int) = (x2 : Int) ∧ IntKind.u32.wrap ((v7 : Int) + (x2 : Int)) = (s1 : Int) ∧ bits .and .u32 (v4 : Int) (v5 : Int) = (y1 : Int) ∧ (4294967295 : Int) - (v4 : Int) = (ne : Int) ∧ bits .and .u32 (ne : Int) (v6 : Int) = (y2 : Int) ∧ bits .xor .u32 (y1 : Int) (y2 : Int) = (y3 : Int) ∧ IntKind.u32.wrap ((s1 : Int) + (y3 : Int)) = (s2 : Int) ∧ IntKind.u32.wrap ((s2 : Int) + (k : Int)) = (s3 : Int) ∧ IntKind.u32.wrap ((s3 : Int) + (x : Int)) = (s4 : Int) ∧ s4 < 4294967296 ∧ s4 = add32 (add32 (add32 (add32 v7 (bs1 v4)) ((v4 &&& v5) ^^^ ((4294967295 - v4) &&& v6))) k) x :=
  ⟨_, _, _, _, 4294967295 - v4, _, _, _, _, _, xor_u32 _ _ (rot_lt (by decide) h4) (rot_lt (by decide) h4), xor_u32 _ _ (xor_lt32 (rot_lt (by decide) h4) (rot_lt (by decide) h4)) (rot_lt (by decide) h4), add_rule _ _, and_u32 _ _ h4 h5, by omega, and_u32 _ _ (by omega) h6, xor_u32 _ _ (and_lt32 h5) (and_lt32 h6), add_rule _ _, add_rule _ _, add_rule _ _, add32_lt _ _, rfl⟩
theorem into_u (v0 v1 v2 : Nat) (h0 : v0 < 4294967296) (h1 : v1 < 4294967296) (h2 : v2 < 4294967296) : ∃ x1 x2 y1 y2 y3 y4 y5 s1 : Nat, bits .xor .u32 ((rot v0 2 : Nat) : Int) ((rot v0 13 : Nat) : Int) = (x1 : Int) ∧ bits .xor .u32 (x1 : Int) ((rot v0 22 : Nat) : Int) = (x2 : Int) ∧ bits .and .u32 (v0 : Int) (v1 : Int) = (y1 : Int) ∧ bits .and .u32 (v0 : Int) (v2 : Int) = (y2 : Int) ∧ bits .xor .u32 (y1 : Int) (y2 : Int) = (y3 : Int) ∧ bits .and .u32 (v1 : Int) (v2 : Int) = (y4 : Int) ∧ bits .xor .u32 (y3 : Int) (y4 : Int) = (y5 : Int) ∧ IntKind.u32.wrap ((x2 : Int) + (y5 : Int)) = (s1 : Int) ∧ s1 < 4294967296 ∧ s1 = add32 (bs0 v0) ((v0 &&& v1) ^^^ (v0 &&& v2) ^^^ (v1 &&& v2)) :=
  ⟨_, _, _, _, _, _, _, _, xor_u32 _ _ (rot_lt (by decide) h0) (rot_lt (by decide) h0), xor_u32 _ _ (xor_lt32 (rot_lt (by decide) h0) (rot_lt (by decide) h0)) (rot_lt (by decide) h0), and_u32 _ _ h0 h1, and_u32 _ _ h0 h2, xor_u32 _ _ (and_lt32 h1) (and_lt32 h2), and_u32 _ _ h1 h2, xor_u32 _ _ (xor_lt32 (and_lt32 h1) (and_lt32 h2)) (and_lt32 h2), add_rule _ _, add32_lt _ _, rfl⟩
theorem zip_len {a b : List Nat} (ha : a.length = 8) (hb : b.length = 8) : (List.zipWith add32 a b).length = 8 := by rw [List.length_zipWith, ha, hb]; rfl
theorem zip_get {a b : List Nat} {i : Nat} (ha : i < a.length) (hb : i < b.length) : (List.zipWith add32 a b).getD i 0 = add32 (a.getD i 0) (b.getD i 0) := by
  rw [List.getD_eq_getElem?_getD, List.getElem?_zipWith, List.getElem?_eq_getElem ha, List.getElem?_eq_getElem hb]
  simp [List.getD_eq_getElem?_getD, List.getElem?_eq_getElem ha, List.getElem?_eq_getElem hb]
theorem below_nil {w w1 : World} (h : w.grownBy w1 (Value.slice none 0 0).ownBlock) : Below w.heap.size w w1 := (Below.refl _ _).grown h (Nat.le_refl _) (fun k hk => by cases hk)
set_option maxRecDepth 100000 in
set_option maxHeartbeats 12800000 in
theorem rinto_any (s bl : List Nat) (As Ab Ak : Option Addr) (cs cb ck : Nat) (w : World) (hS : (Kd.int .u32).C w As 8 (nat s)) (hs : s.length = 8) (hsl : ∀ x ∈ s, x < 4294967296) (hB : (Kd.int .u8).C w Ab 64 (nat bl)) (hb : bl.length = 64) (hb8 : ∀ x ∈ bl, x < 256) (hK : (Kd.int .u32).C w Ak 64 (nat kN)) :
    Calls Try.prog 58 #[.slice As 8 cs, .slice Ab 64 cb, .slice Ak 64 ck] w fun e w' => ∃ v, e = .returned v ∧ (Kd.int .u32).R 33 w' w.heap.size (fun _ => True) v (nat (mixN s bl)) ∧ Below w.heap.size w w' := by
  have HWd := Lib.hid (rwords_any bl Ab cb w hB hb hb8)
  have HS := Lib.hid hS
  have HSl := Lib.hid hsl
  have HSn := Lib.hid hs
  have HEq := Lib.hid (rinto_eq bl hsl)
  have HVl := Lib.hid (fun i => rrounds_len (w := rW bl) hs i)
  have HVt := Lib.hid (fun i => rrounds_lt (w := rW bl) hsl i)
  have hWt : ∀ i, i < 64 → (rW bl).getD i 0 < 4294967296 := fun i hi => getD_lt (by rw [rW_length]; exact hi) (extW_lt (w16_lt hb8) 48)
  have HWt := Lib.hid hWt
  have HKt := Lib.hid (show ∀ i, i < 64 → kN.getD i 0 < 4294967296 from by decide)
  have HWl := Lib.hid (rW_length bl)
  have HRr := Lib.hid (fun i => show rrounds (rW bl) (i + 1) s = rrnd (rrounds (rW bl) i s) (kN.getD i 0) ((rW bl).getD i 0) from rfl)
  have HMx := Lib.hid (show rinto s bl = List.zipWith add32 (rrounds (rW bl) 64 s) s from rfl)
  have HR0 := Lib.hid (show rrounds (rW bl) 0 s = s from rfl)
  have hK' : (Kd.int .u32).C w Ak kN.length (nat kN) := hK
  obtain ⟨bk, ok, rfl, hbk, hck⟩ := B_at hK' (by decide)
  have HCk := Lib.hid (fun j (hj : j < 64) W (hW : Below w.heap.size w W) => pw_cell_below hW (hck j hj))
  rw [← hs] at hS
  obtain ⟨bs, os, rfl, hbs, hcs⟩ := B_at hS (by rw [hs]; decide)
  have HCs := Lib.hid (fun j (hj : j < 8) W (hW : Below w.heap.size w W) => pw_cell_below hW (hcs j (by rw [hs]; exact hj)))
  have HLt := Lib.hid (show bk < w.heap.size ∧ bs < w.heap.size from ⟨hbk, hbs⟩)
  generalize rW bl = WW at *
  clear hS hs hsl hB hb hb8 hK hK' hck hbk hbs hcs hWt
  go_enter Try.func58, Try.ntmps58
  go_wp2_with fail
  refine HWd.out.mono ?_
  rintro e w1 ⟨v7, rfl, hr7, hb7⟩
  obtain ⟨g7, c7, hv7, hc7, hg7, hl7⟩ := R_openK hr7 (by rw [HWl.out]; decide)
  rw [HWl.out] at hv7
  subst hv7
  have HR7 := Lib.hid hr7
  have HB1 := Lib.hid hb7
  have HL7 := Lib.hid hl7
  clear hr7 hb7 hc7 hg7 hl7 HWd
  go_wp2_with (at_builtin; refine appn (w0 := w) .u32 w.heap.size (.tmp 17) (.tmp 18) 86 33 4 rfl rfl Try.underlying86 info_w32 (by decide) (.slice none 0 0) [] (nat s) (some ⟨bs, os, none⟩) 8 cs rfl rfl (Kd.R_nil _ _ _ _ _) (Kd.C_below HS.out HB1.out) HB1.out HB1.out.size (by simp) ?_; intro v8 w8 hr8 hb8 hg8; (have HR8 := Lib.hid hr8); (have HB8 := Lib.hid hb8); (have HG8 := Lib.hid hg8); clear hr8 hb8 hg8)
  have HRv := Lib.hid (show (Kd.int .u32).R 33 w8 w.heap.size (fun _ => True) v8 (nat (rrounds WW 0 s)) from by rw [HR0.out]; simpa using HR8.out)
  have HB18 := Lib.hid (show Below w1.heap.size w1 w8 from below_nil HG8.out)
  have HR7x := Lib.hid HR7.out
  clear HR8 HG8 HR7 HS
  go_loopg [8, 9] 65 (fun g v8 v9 w' => ∃ i : Nat, v9 = .int .i64 (i : Int) ∧ Hid (i ≤ 64 ∧ 64 < g + i) ∧ Hid ((Kd.int .u32).R 33 w' w.heap.size (fun _ => True) v8 (nat (rrounds WW i s))) ∧ Hid (Below w1.heap.size w1 w'))
  case atStart => exact ⟨0, rfl, Lib.hid ⟨by omega, by omega⟩, HRv, HB18⟩
  case round =>
    obtain ⟨i, rfl, HJ, HR, HB⟩ := hrel
    clear HRv HB18 HB8
    have hvl := HVl.out i
    obtain ⟨gv, cv, hv8, hcv, hgv, hlv⟩ := R_openK HR.out (by omega)
    rw [hvl] at hv8
    subst hv8
    cases gk with
    | zero => have := HJ.out; omega
    | succ k =>
      by_cases hlt : i < 64
      · have HJ' := Lib.hid (show i < 64 ∧ 64 < (k + 1) + i from ⟨hlt, HJ.out.2⟩)
        have hbw : Below w.heap.size w wr := HB1.out.trans (HB.out.mono HB1.out.size)
        have HBw := Lib.hid hbw
        have hr := HR.out
        obtain ⟨v0, v1, v2, v3, v4, v5, v6, v7, hV⟩ := list8 hvl
        have hvt := HVt.out i
        have hrr := HRr.out i
        rw [hV] at hr hvt hrr
        have p0 : wr.cell? ⟨gv, 0, none⟩ = some (.int .u32 (v0 : Int)) := (R_atK hr (j := 0) (show 0 < 8 by decide)).1
        have l0 : v0 < 4294967296 := hvt _ (by simp)
        have p1 : wr.cell? ⟨gv, 1, none⟩ = some (.int .u32 (v1 : Int)) := (R_atK hr (j := 1) (show 1 < 8 by decide)).1
        have l1 : v1 < 4294967296 := hvt _ (by simp)
        have p2 : wr.cell? ⟨gv, 2, none⟩ = some (.int .u32 (v2 : Int)) := (R_atK hr (j := 2) (show 2 < 8 by decide)).1
        have l2 : v2 < 4294967296 := hvt _ (by simp)
        have p3 : wr.cell? ⟨gv, 3, none⟩ = some (.int .u32 (v3 : Int)) := (R_atK hr (j := 3) (show 3 < 8 by decide)).1
        have l3 : v3 < 4294967296 := hvt _ (by simp)
        have p4 : wr.cell? ⟨gv, 4, none⟩ = some (.int .u32 (v4 : Int)) := (R_atK hr (j := 4) (show 4 < 8 by decide)).1
        have l4 : v4 < 4294967296 := hvt _ (by simp)
        have p5 : wr.cell? ⟨gv, 5, none⟩ = some (.int .u32 (v5 : Int)) := (R_atK hr (j := 5) (show 5 < 8 by decide)).1
        have l5 : v5 < 4294967296 := hvt _ (by simp)
        have p6 : wr.cell? ⟨gv, 6, none⟩ = some (.int .u32 (v6 : Int)) := (R_atK hr (j := 6) (show 6 < 8 by decide)).1
        have l6 : v6 < 4294967296 := hvt _ (by simp)
        have p7 : wr.cell? ⟨gv, 7, none⟩ = some (.int .u32 (v7 : Int)) := (R_atK hr (j := 7) (show 7 < 8 by decide)).1
        have l7 : v7 < 4294967296 := hvt _ (by simp)
        have pk : wr.cell? ⟨bk, ok + i, none⟩ = _ := HCk.out i hlt wr hbw
        have pw : wr.cell? ⟨g7, i, none⟩ = _ := pw_cell_below HB.out (R_atK HR7x.out (j := i) (by rw [HWl.out]; exact hlt)).1
        have lk := HKt.out i hlt
        have lw := HWt.out i hlt
        obtain ⟨kc, hkc⟩ : ∃ x, kN.getD i 0 = x := ⟨_, rfl⟩
        obtain ⟨wc, hwc⟩ : ∃ x, WW.getD i 0 = x := ⟨_, rfl⟩
        rw [hkc] at pk lk hrr
        rw [hwc] at pw lw hrr
        obtain ⟨x1, x2, s1, y1, ne, y2, y3, s2, s3, t, e1, e2, e3, e4, e5, e6, e7, e8, e9, e10, lt, ht⟩ := into_t v4 v5 v6 v7 kc wc l4 l5 l6
        obtain ⟨x3, x4, y4, y5, y6, y7, y8, u, d1, d2, d3, d4, d5, d6, d7, d8, lu, hu⟩ := into_u v0 v1 v2 l0 l1 l2
        have hrn : rrnd [v0, v1, v2, v3, v4, v5, v6, v7] kc wc = [add32 t u, v0, v1, v2, add32 v3 t, v4, v5, v6] := by rw [ht, hu]; rfl
        rw [hrn] at hrr
        obtain ⟨n0, hn0⟩ : ∃ x, add32 t u = x := ⟨_, rfl⟩
        obtain ⟨n4, hn4⟩ : ∃ x, add32 v3 t = x := ⟨_, rfl⟩
        have c1 : IntKind.u32.wrap ((t : Int) + (u : Int)) = (n0 : Int) := by rw [← hn0]; exact add_rule t u
        have c2 : IntKind.u32.wrap ((v3 : Int) + (t : Int)) = (n4 : Int) := by rw [← hn4]; exact add_rule v3 t
        rw [hn0, hn4] at hrr
        have HRn := Lib.hid hrr
        have HT6 := Lib.hid (fun W => rturn_any v4 6 W l4 (by decide))
        have HT11 := Lib.hid (fun W => rturn_any v4 11 W l4 (by decide))
        have HT25 := Lib.hid (fun W => rturn_any v4 25 W l4 (by decide))
        have HT2 := Lib.hid (fun W => rturn_any v0 2 W l0 (by decide))
        have HT13 := Lib.hid (fun W => rturn_any v0 13 W l0 (by decide))
        have HT22 := Lib.hid (fun W => rturn_any v0 22 W l0 (by decide))
        generalize rot v4 6 = f1 at e1 e2 d1 d2 HT6
        generalize rot v4 11 = f2 at e1 e2 d1 d2 HT11
        generalize rot v4 25 = f3 at e1 e2 d1 d2 HT25
        generalize rot v0 2 = f4 at e1 e2 d1 d2 HT2
        generalize rot v0 13 = f5 at e1 e2 d1 d2 HT13
        generalize rot v0 22 = f6 at e1 e2 d1 d2 HT22
        have z0 : (i : Int) < 64 := by omega
        have z1 : (0 : Int) ≤ (i : Int) := by omega
        have z2 : (v4 : Int) < 4294967296 := by omega
        have z3 : (0 : Int) ≤ (v4 : Int) := by omega
        have P0 := Lib.hid p0
        have P1 := Lib.hid p1
        have P2 := Lib.hid p2
        have P3 := Lib.hid p3
        have P4 := Lib.hid p4
        have P5 := Lib.hid p5
        have P6 := Lib.hid p6
        have P7 := Lib.hid p7
        have Pk := Lib.hid pk
        have Pw := Lib.hid pw
        have hkl : bk < wr.heap.size := Nat.lt_of_lt_of_le HLt.out.1 hbw.size
        have hwl : g7 < wr.heap.size := Nat.lt_of_lt_of_le HL7.out HB.out.size
        have HLs := Lib.hid (show gv < wr.heap.size ∧ bk < wr.heap.size ∧ g7 < wr.heap.size from ⟨hlv, hkl, hwl⟩)
        have E1 := Lib.hid (And.intro e1 (And.intro e2 (And.intro e3 (And.intro e4 (And.intro e5 (And.intro e6 (And.intro e7 (And.intro e8 (And.intro e9 e10)))))))))
        have E2 := Lib.hid (And.intro d1 (And.intro d2 (And.intro d3 (And.intro d4 (And.intro d5 (And.intro d6 (And.intro d7 d8)))))))
        have E3 := Lib.hid (And.intro c1 c2)
        have q0 := gw hlv p0
        have q4 := gw hlv p4
        have HLx := Lib.hid (show (v0 < 4294967296 ∧ v1 < 4294967296 ∧ v2 < 4294967296) ∧ n0 < 4294967296 ∧ n4 < 4294967296 from ⟨⟨l0, l1, l2⟩, hn0 ▸ add32_lt _ _, hn4 ▸ add32_lt _ _⟩)
        clear hlt HJ hbw hr hV hvt hrr hrn hn0 hn4 ht hu hkc hwc lt lu lk lw l0 l1 l2 l3 l4 l5 l6 l7 hkl hwl hlv hgv hcv hvl e1 e2 e3 e4 e5 e6 e7 e8 e9 e10 d1 d2 d3 d4 d5 d6 d7 d8 c1 c2 p0 p1 p2 p3 p4 p5 p6 p7 pk pw HR
        go_wp2_with fail
        refine Q.wp_region_segs none [([0, 1, 2, 3, 4, 5, 6, 7], none)] (by kernel_rfl) (by kernel_rfl) (by kernel_rfl) (by kernel_rfl) ?_
        dsimp only [Q.wpSegs, Q.picks, Q.pick]
        repeat (go_big_quiet_step (fail))
        refine wpQuiet_nil ?_
        clear q0 q4
        refine NoPanic.normal ?_
        refine exit_at fun W2 hW2 => ?_
        have hb2 : Below wr.heap.size wr W2 := by rw [hW2]; exact stay0 wr
        have HBw2 := Lib.hid (show Below wr.heap.size wr W2 from hb2)
        have q5 := gw (Nat.lt_of_lt_of_le HLs.out.1 HBw2.out.size) (pw_cell_below HBw2.out P5.out)
        have q6 := gw (Nat.lt_of_lt_of_le HLs.out.1 HBw2.out.size) (pw_cell_below HBw2.out P6.out)
        have q7 := gw (Nat.lt_of_lt_of_le HLs.out.1 HBw2.out.size) (pw_cell_below HBw2.out P7.out)
        have qk := gw (Nat.lt_of_lt_of_le HLs.out.2.1 HBw2.out.size) (pw_cell_below HBw2.out Pk.out)
        have qw := gw (Nat.lt_of_lt_of_le HLs.out.2.2 HBw2.out.size) (pw_cell_below HBw2.out Pw.out)
        obtain ⟨e1, e2, e3, e4, e5, e6, e7, e8, e9, e10⟩ := E1.out
        have z2 : (v4 : Int) < 4294967296 := z2
        clear hW2 hb2
        go_wp2_with fail
        refine Q.wp_region_segs none [([0, 1, 2, 3, 5, 8, 12, 13, 14, 15, 16, 17, 18, 19, 20, 21, 22, 23, 25, 26, 27, 28, 30, 31, 32, 33], some 4), ([], some 6), ([7], some 9), ([10, 11, 24, 29, 34, 35], none)] (by kernel_rfl) (by kernel_rfl) (by kernel_rfl) (by kernel_rfl) ?_
        dsimp only [Q.wpSegs, Q.picks, Q.pick]
        repeat (go_big_quiet_step (fail))
        refine wpQuiet_nil ?_
        clear q5 q6 q7 qk qw
        go_wp2_with fail
        refine (HT6.out _).mono ?_
        rintro e w3 ⟨rfl, hw3⟩
        rw [hw3]
        clear hw3 w3 HT6
        go_wp2_with fail
        refine Q.ev_keep (Below.refl _ _) (Nat.le_refl _) ?_
        repeat (go_big_quiet_step (fail))
        refine wpQuiet_nil ?_
        go_wp2_with fail
        refine (HT11.out _).mono ?_
        rintro e w3 ⟨rfl, hw3⟩
        rw [hw3]
        clear hw3 w3 HT11
        go_wp2_with fail
        refine Q.ev_keep (Below.refl _ _) (Nat.le_refl _) ?_
        repeat (go_big_quiet_step (fail))
        refine wpQuiet_nil ?_
        go_wp2_with fail
        refine (HT25.out _).mono ?_
        rintro e w3 ⟨rfl, hw3⟩
        rw [hw3]
        clear hw3 w3 HT25
        go_wp2_with fail
        refine Q.ev_keep (Below.refl _ _) (Nat.le_refl _) ?_
        repeat (go_big_quiet_step (fail))
        refine wpQuiet_nil ?_
        refine NoPanic.normal ?_
        clear e1 e2 e3 e4 e5 e6 e7 e8 e9 e10
        refine exit_at fun W3 hW3 => ?_
        have hb3 : Below W2.heap.size W2 W3 := by rw [hW3]; exact stay0 W2
        have HBw3 := Lib.hid (show Below wr.heap.size wr W3 from HBw2.out.trans (hb3.mono HBw2.out.size))
        have q1 := gw (Nat.lt_of_lt_of_le HLs.out.1 HBw3.out.size) (pw_cell_below HBw3.out P1.out)
        have q2 := gw (Nat.lt_of_lt_of_le HLs.out.1 HBw3.out.size) (pw_cell_below HBw3.out P2.out)
        obtain ⟨d1, d2, d3, d4, d5, d6, d7, d8⟩ := E2.out
        clear hW3 hb3
        go_wp2_with fail
        refine Q.wp_region_segs none [([0, 2, 5, 8, 9, 10, 11, 12, 13, 14, 15, 16, 17, 18, 19, 20, 21, 22, 23, 24, 25, 26], some 1), ([], some 3), ([4], some 6), ([7, 27, 28], none)] (by kernel_rfl) (by kernel_rfl) (by kernel_rfl) (by kernel_rfl) ?_
        dsimp only [Q.wpSegs, Q.picks, Q.pick]
        repeat (go_big_quiet_step (fail))
        refine wpQuiet_nil ?_
        clear q1 q2
        go_wp2_with fail
        refine (HT2.out _).mono ?_
        rintro e w3 ⟨rfl, hw3⟩
        rw [hw3]
        clear hw3 w3 HT2
        go_wp2_with fail
        refine Q.ev_keep (Below.refl _ _) (Nat.le_refl _) ?_
        repeat (go_big_quiet_step (fail))
        refine wpQuiet_nil ?_
        go_wp2_with fail
        refine (HT13.out _).mono ?_
        rintro e w3 ⟨rfl, hw3⟩
        rw [hw3]
        clear hw3 w3 HT13
        go_wp2_with fail
        refine Q.ev_keep (Below.refl _ _) (Nat.le_refl _) ?_
        repeat (go_big_quiet_step (fail))
        refine wpQuiet_nil ?_
        go_wp2_with fail
        refine (HT22.out _).mono ?_
        rintro e w3 ⟨rfl, hw3⟩
        rw [hw3]
        clear hw3 w3 HT22
        go_wp2_with fail
        refine Q.ev_keep (Below.refl _ _) (Nat.le_refl _) ?_
        repeat (go_big_quiet_step (fail))
        refine wpQuiet_nil ?_
        refine NoPanic.normal ?_
        clear d1 d2 d3 d4 d5 d6 d7 d8
        refine exit_at fun W4 hW4 => ?_
        have hb4 : Below W3.heap.size W3 W4 := by rw [hW4]; exact stay0 W3
        have HBw4 := Lib.hid (show Below wr.heap.size wr W4 from HBw3.out.trans (hb4.mono HBw3.out.size))
        have q0 := gw (Nat.lt_of_lt_of_le HLs.out.1 HBw4.out.size) (pw_cell_below HBw4.out P0.out)
        have q1 := gw (Nat.lt_of_lt_of_le HLs.out.1 HBw4.out.size) (pw_cell_below HBw4.out P1.out)
        have q2 := gw (Nat.lt_of_lt_of_le HLs.out.1 HBw4.out.size) (pw_cell_below HBw4.out P2.out)
        have q3 := gw (Nat.lt_of_lt_of_le HLs.out.1 HBw4.out.size) (pw_cell_below HBw4.out P3.out)
        have q4 := gw (Nat.lt_of_lt_of_le HLs.out.1 HBw4.out.size) (pw_cell_below HBw4.out P4.out)
        have q5 := gw (Nat.lt_of_lt_of_le HLs.out.1 HBw4.out.size) (pw_cell_below HBw4.out P5.out)
        have q6 := gw (Nat.lt_of_lt_of_le HLs.out.1 HBw4.out.size) (pw_cell_below HBw4.out P6.out)
        obtain ⟨c1, c2⟩ := E3.out
        clear hW4 hb4
        go_wp2_with fail
        refine Q.wp_region_segs none [([0, 1, 2, 3, 4, 5, 6, 7, 8, 9, 10, 11, 12, 13, 14, 15, 16, 17, 18, 19, 20, 21, 22, 23, 24, 25], some 26), ([27], none)] (by kernel_rfl) (by kernel_rfl) (by kernel_rfl) (by kernel_rfl) ?_
        dsimp only [Q.wpSegs, Q.picks, Q.pick]
        repeat (go_big_quiet_step (fail))
        refine wpQuiet_nil ?_
        clear q0 q1 q2 q3 q4 q5 q6 c1 c2
        go_wp2_with fail
        refine Q.ev_keep ((Below.refl _ _).alloc (Nat.le_refl _) _) (Nat.le_refl _) ?_
        repeat (go_big_quiet_step (fail))
        refine wpQuiet_nil ?_
        refine NoPanic.normal ?_
        refine exit_at fun W5 hW5 => ?_
        have HR5 := Lib.hid (show (Kd.int .u32).R 33 W5 w.heap.size (fun _ => True) (.slice (some ⟨W4.heap.size, 0, none⟩) 8 8) (nat (rrounds WW (i + 1) s)) from by
          rw [HRn.out, hW5]
          exact ownK (AB.mk W4.drew .u32 33 [n0, v0, v1, v2, n4, v4, v5, v6]) (Nat.le_trans HBw.out.size HBw4.out.size) (show 8 ≤ maxLen by decide))
        have HBx := Lib.hid (show Below w1.heap.size w1 W5 from by
          rw [hW5]
          exact HB.out.trans ((HBw4.out.drew.alloc HBw4.out.size _).mono HB.out.size))
        clear hW5
        go_wp2_with fail
        go_roundg k
        case measure => have := HJ'.out; omega
        case rel => exact ⟨i + 1, by go_num, Lib.hid (by have := HJ'.out; omega), HR5, HBx⟩
      · obtain rfl : i = 64 := by have := HJ.out; omega
        have hM := HMx.out
        rw [HEq.out] at hM
        have hzl := zip_len hvl HSn.out
        have HG := Lib.hid (fun i (hi : i < 8) => zip_get (a := rrounds WW 64 s) (b := s) (i := i) (by rw [hvl]; exact hi) (by rw [HSn.out]; exact hi))
        have HVt64 := Lib.hid (HVt.out 64)
        have hr64 := HR.out
        have HVn := Lib.hid hvl
        obtain ⟨V, hV⟩ : ∃ V, rrounds WW 64 s = V := ⟨_, rfl⟩
        rw [hV] at hM hzl HG hr64 HVn HVt64
        obtain ⟨Z, hZ⟩ : ∃ Z, List.zipWith add32 V s = Z := ⟨_, rfl⟩
        rw [hZ] at hzl HG hM
        have HZe := Lib.hid hM
        have HZl := Lib.hid hzl
        have HBw := Lib.hid (show Below w.heap.size w wr from HB1.out.trans (HB.out.mono HB1.out.size))
        have HRf := Lib.hid (show (Kd.int .u32).R 33 wr w.heap.size (fun _ => True) (.slice (some ⟨gv, 0, none⟩) 8 cv) (nat (fld Z V 0)) from by rw [fld_zero]; exact hr64)
        have HGv := Lib.hid hgv
        clear hlt HJ hM hzl hr64 hV hZ hvl hcv hgv hlv HR HB HVl HVt HRr HMx HR0 HEq HWt HKt HWl
        go_wp2_with fail
        go_loopg [14] 9 (fun g v14 w' => ∃ j : Nat, v14 = .int .i64 (j : Int) ∧ Hid (j ≤ 8 ∧ 8 < g + j) ∧ Hid ((Kd.int .u32).R 33 w' w.heap.size (fun _ => True) (.slice (some ⟨gv, 0, none⟩) 8 cv) (nat (fld Z V j))) ∧ Hid (Below w.heap.size w w'))
        case atStart => exact ⟨0, rfl, Lib.hid ⟨by omega, by omega⟩, HRf, HBw⟩
        case round =>
          obtain ⟨j, rfl, HJ, HR, HB⟩ := hrel
          clear HRf HBw
          cases gk with
          | zero => have := HJ.out; omega
          | succ k2 =>
            have hZV : Z.length = V.length := by rw [HZl.out, HVn.out]
            by_cases hlt : j < 8
            · have HJ' := Lib.hid (show j < 8 ∧ 8 < (k2 + 1) + j from ⟨hlt, HJ.out.2⟩)
              have hjZ : j < Z.length := by rw [HZl.out]; exact hlt
              have hfl : j < (fld Z V j).length := by rw [fld_length hZV (by omega), ← hZV]; exact hjZ
              obtain ⟨k1, k2'⟩ := R_atK HR.out (j := j) hfl
              rw [fld_get hZV hjZ] at k1
              have hg := Kd.R_lt HR.out gv rfl
              have k3 := HCs.out j hlt wr HB.out
              have hgj := HG.out j hlt
              have hvj := getD_lt (show j < V.length by rw [HVn.out]; exact hlt) HVt64.out
              have hsj := getD_lt (show j < s.length by rw [HSn.out]; exact hlt) HSl.out
              have hst := fld_step hZV hjZ
              obtain ⟨xv, hxv⟩ : ∃ x, V.getD j 0 = x := ⟨_, rfl⟩
              obtain ⟨xs, hxs⟩ : ∃ x, s.getD j 0 = x := ⟨_, rfl⟩
              obtain ⟨xz, hxz⟩ : ∃ x, Z.getD j 0 = x := ⟨_, rfl⟩
              rw [hxv] at k1 hvj hgj
              rw [hxs] at k3 hsj hgj
              rw [hxz] at hgj hst
              have HSt := Lib.hid hst
              have e1 : IntKind.u32.wrap ((xv : Int) + (xs : Int)) = (xz : Int) := by rw [hgj]; exact add_rule xv xs
              have g1 := gw hg k1
              have g2 := gw (Nat.lt_of_lt_of_le HLt.out.2 HB.out.size) k3
              have k1d : wr.drew.cell? ⟨gv, j, none⟩ = some (.int .u32 (xv : Int)) := k1
              have k2d : wr.drew.frozen? ⟨gv, j, none⟩ = false := k2'
              have z0 : (j : Int) < 8 := by omega
              have z1 : (0 : Int) ≤ (j : Int) := by omega
              clear hlt HJ hjZ hfl k1 k2' hg k3 hgj hvj hsj hst hxv hxs hxz hZV
              go_wp2_with fail
              refine Q.wp_region_segsF none [] [0, 1, 2, 3, 4, 5, 6, 7, 8, 9, 10, 11] 12 (by kernel_rfl) (by kernel_rfl) (by kernel_rfl) (by kernel_rfl) ?_
              dsimp only [Q.wpSegsF, Q.picks, Q.pick]
              repeat (go_big_quiet_step (fail))
              refine wpQuiet_nil ?_
              clear g1 g2 e1
              go_wp2_with fail
              refine NoPanic.normal ?_
              clear k1d k2d
              refine exit_at fun W5 hW5 => ?_
              have hw5 := R_wrK HR.out j xz
              have HR5 := Lib.hid (show (Kd.int .u32).R 33 W5 w.heap.size (fun _ => True) (.slice (some ⟨gv, 0, none⟩) 8 cv) (nat (fld Z V (j + 1))) from by
                rw [hW5, ← HSt.out]
                exact Kd.R_below hw5.1 (stay0 _))
              have HB5 := Lib.hid (show Below w.heap.size w W5 from by rw [hW5]; exact (HB.out.grown hw5.2 HB.out.size (fun k hk => by injection hk with hk; have := HGv.out; omega)).drew)
              clear hW5 hw5
              go_wp2_with fail
              go_roundg k2
              case measure => have := HJ'.out; omega
              case rel => exact ⟨j + 1, by go_num, Lib.hid (by have := HJ'.out; omega), HR5, HB5⟩
            · obtain rfl : j = 8 := by have := HJ.out; omega
              have HRe := Lib.hid (show (Kd.int .u32).R 33 wr w.heap.size (fun _ => True) (.slice (some ⟨gv, 0, none⟩) 8 cv) (nat Z) from by have := HR.out; rwa [← HZl.out, fld_all hZV, HZl.out] at this)
              clear hlt HJ HR hZV
              go_wp2_with fail
              go_ret
              exact ⟨_, rfl, by rw [HZe.out]; exact HRe.out, HB.out⟩
end Go.Proofs.Ytagfplcafeblbaa.H
