/-
  sha: the document's words.
-/
import Derived.Test.YtagfplcafeblbaaHq
import Derived.Test.YtagfplcafeblbaaQg
namespace Go.Proofs.Ytagfplcafeblbaa.H
open Go.RowKit Go.Proofs.Ytagfplcafeblbaa.L Go.Proofs.Ytagfplcafeblbaa.N Go.Proofs.YtagfplcafeblbaaW.PrintWords

theorem w16_snoc {b : List Nat} {i y : Nat} (hi : i < 16) (h : wordN b (4 * i) = y) : nat ((w16 b).take (i + 1)) = nat ((w16 b).take i) ++ [(y : Int)] := by
  have h1 := nat_snoc (l := w16 b) (j := i) (by rw [w16_length]; exact hi)
  rw [← h1]
  have : (w16 b).getD i 0 = y := by
    unfold w16
    rw [List.getD_eq_getElem?_getD, List.getElem?_map, List.getElem?_range hi]
    exact h
  rw [this]
theorem extW_lt {l : List Nat} (h : ∀ x ∈ l, x < 4294967296) : ∀ n, ∀ x ∈ extW n l, x < 4294967296
  | 0 => h
  | n + 1 => fun x hx => by
    rw [extW, List.mem_append, List.mem_singleton] at hx
    rcases hx with hx | rfl
    · exact extW_lt h n x hx
    · exact add32_lt _ _
theorem words_rules (x y u v : Nat) (hx : x < 4294967296) (hy : y < 4294967296) : ∃ a1 a2 a3 a4 b1 b2 b3 : Nat, bits .xor .u32 ((rot x 7 : Nat) : Int) ((rot x 18 : Nat) : Int) = (a1 : Int) ∧ bits .xor .u32 (a1 : Int) ((x / 2 ^ 3 : Nat) : Int) = (a2 : Int) ∧ bits .xor .u32 ((rot y 17 : Nat) : Int) ((rot y 19 : Nat) : Int) = (a3 : Int) ∧ bits .xor .u32 (a3 : Int) ((y / 2 ^ 10 : Nat) : Int) = (a4 : Int) ∧ IntKind.u32.wrap ((u : Int) + (v : Int)) = (b1 : Int) ∧ IntKind.u32.wrap ((b1 : Int) + (a2 : Int)) = (b2 : Int) ∧ IntKind.u32.wrap ((b2 : Int) + (a4 : Int)) = (b3 : Int) ∧ b3 = add32 (add32 (add32 u v) (sg0 x)) (sg1 y) :=
  ⟨_, _, _, _, _, _, _, xor_u32 _ _ (rot_lt (by decide) hx) (rot_lt (by decide) hx), xor_u32 _ _ (xor_lt32 (rot_lt (by decide) hx) (rot_lt (by decide) hx)) (Nat.lt_of_le_of_lt (Nat.div_le_self _ _) hx), xor_u32 _ _ (rot_lt (by decide) hy) (rot_lt (by decide) hy), xor_u32 _ _ (xor_lt32 (rot_lt (by decide) hy) (rot_lt (by decide) hy)) (Nat.lt_of_le_of_lt (Nat.div_le_self _ _) hy), add_rule _ _, add_rule _ _, add_rule _ _, rfl⟩
set_option maxRecDepth 100000 in
set_option maxHeartbeats 6400000 in
theorem rwords_any (b : List Nat) (A : Option Addr) (c : Nat) (w : World) (hC : (Kd.int .u8).C w A 64 (nat b)) (hb : b.length = 64) (hb8 : ∀ x ∈ b, x < 256) :
    Calls Try.prog 66 #[.slice A 64 c] w fun e w' => ∃ v, e = .returned v ∧ (Kd.int .u32).R 33 w' w.heap.size (fun _ => True) v (nat (rW b)) ∧ Below w.heap.size w w' := by
  rw [← hb] at hC
  obtain ⟨bk, off, rfl, hbk, hcell⟩ := B_at hC (by omega)
  have HC := Lib.hid (fun j (hj : j < 64) W (hW : Below w.heap.size w W) => pw_cell_below hW (hcell j (by omega)))
  have HB8 := Lib.hid (fun j (hj : j < 64) => getD_lt (show j < b.length by omega) hb8)
  have HLt := Lib.hid hbk
  have HW8 := Lib.hid (extW_lt (w16_lt hb8))
  clear hC hbk hcell hb hb8
  go_enter Try.func66, Try.ntmps66
  go_wp2_with fail
  go_loopg [3, 4] 17 (fun g v3 v4 w' => ∃ i : Nat, v4 = .int .i64 (i : Int) ∧ Hid (i ≤ 16 ∧ 16 < g + i) ∧ Hid ((Kd.int .u32).R 33 w' w.heap.size (fun _ => True) v3 (nat ((w16 b).take i))) ∧ Hid (Below w.heap.size w w'))
  case atStart => exact ⟨0, rfl, Lib.hid ⟨by omega, by omega⟩, Lib.hid (Kd.R_nil _ _ _ _ _), Lib.hid (Below.refl _ _)⟩
  case round =>
    obtain ⟨i, rfl, HJ, HR, HB⟩ := hrel
    cases gk with
    | zero => have := HJ.out; omega
    | succ k =>
      by_cases hlt : i < 16
      · have HJ' := Lib.hid (show i < 16 ∧ 16 < (k + 1) + i from ⟨hlt, HJ.out.2⟩)
        have hsz : bk < wr.heap.size := Nat.lt_of_lt_of_le HLt.out HB.out.size
        have p0 := HC.out (4 * i) (by omega) wr HB.out
        have l0 := HB8.out (4 * i) (by omega)
        have p1 := HC.out (4 * i + 1) (by omega) wr HB.out
        have l1 := HB8.out (4 * i + 1) (by omega)
        have p2 := HC.out (4 * i + 2) (by omega) wr HB.out
        have l2 := HB8.out (4 * i + 2) (by omega)
        have p3 := HC.out (4 * i + 3) (by omega) wr HB.out
        have l3 := HB8.out (4 * i + 3) (by omega)
        have hw : wordN b (4 * i) = b.getD (4 * i) 0 * 16777216 + b.getD (4 * i + 1) 0 * 65536 + b.getD (4 * i + 2) 0 * 256 + b.getD (4 * i + 3) 0 := rfl
        obtain ⟨x0, hx0⟩ : ∃ x, b.getD (4 * i) 0 = x := ⟨_, rfl⟩
        rw [hx0] at p0 l0 hw
        obtain ⟨x1, hx1⟩ : ∃ x, b.getD (4 * i + 1) 0 = x := ⟨_, rfl⟩
        rw [hx1] at p1 l1 hw
        obtain ⟨x2, hx2⟩ : ∃ x, b.getD (4 * i + 2) 0 = x := ⟨_, rfl⟩
        rw [hx2] at p2 l2 hw
        obtain ⟨x3, hx3⟩ : ∃ x, b.getD (4 * i + 3) 0 = x := ⟨_, rfl⟩
        rw [hx3] at p3 l3 hw
        obtain ⟨j3, hj3⟩ : ∃ x, 4 * i + 3 = x := ⟨_, rfl⟩
        rw [hj3] at p3
        obtain ⟨j2, hj2⟩ : ∃ x, 4 * i + 2 = x := ⟨_, rfl⟩
        rw [hj2] at p2
        obtain ⟨j1, hj1⟩ : ∃ x, 4 * i + 1 = x := ⟨_, rfl⟩
        rw [hj1] at p1
        obtain ⟨j0, hj0⟩ : ∃ x, 4 * i = x := ⟨_, rfl⟩
        rw [hj0] at p0
        obtain ⟨y0, hy0⟩ : ∃ y, 16777216 * x0 = y := ⟨_, rfl⟩
        obtain ⟨y1, hy1⟩ : ∃ y, 65536 * x1 = y := ⟨_, rfl⟩
        obtain ⟨y2, hy2⟩ : ∃ y, 256 * x2 = y := ⟨_, rfl⟩
        obtain ⟨t1, ht1⟩ : ∃ y, y0 + y1 = y := ⟨_, rfl⟩
        obtain ⟨t2, ht2⟩ : ∃ y, t1 + y2 = y := ⟨_, rfl⟩
        obtain ⟨t3, ht3⟩ : ∃ y, t2 + x3 = y := ⟨_, rfl⟩
        have HSn := Lib.hid (w16_snoc (b := b) (y := t3) hlt (by omega))
        have e0 : (16777216 : Int) * (x0 : Int) = (y0 : Int) := by omega
        have e1 : (65536 : Int) * (x1 : Int) = (y1 : Int) := by omega
        have e2 : (256 : Int) * (x2 : Int) = (y2 : Int) := by omega
        have e3 : (y0 : Int) + (y1 : Int) = (t1 : Int) := by omega
        have e4 : (t1 : Int) + (y2 : Int) = (t2 : Int) := by omega
        have e5 : (t2 : Int) + (x3 : Int) = (t3 : Int) := by omega
        have m0 : (4 : Int) * (i : Int) = (j0 : Int) := by omega
        have m1 : (j0 : Int) + 1 = (j1 : Int) := by omega
        have m2 : (j0 : Int) + 2 = (j2 : Int) := by omega
        have m3 : (j0 : Int) + 3 = (j3 : Int) := by omega
        have by0 : (y0 : Int) ≤ 4278190080 := by omega
        have by1 : (y1 : Int) ≤ 16711680 := by omega
        have by2 : (y2 : Int) ≤ 65280 := by omega
        have bt1 : (t1 : Int) ≤ 4294901760 := by omega
        have bt2 : (t2 : Int) ≤ 4294967040 := by omega
        have bt3 : (t3 : Int) ≤ 4294967295 := by omega
        have bx0 : (x0 : Int) ≤ 255 := by omega
        have bx1 : (x1 : Int) ≤ 255 := by omega
        have bx2 : (x2 : Int) ≤ 255 := by omega
        have bx3 : (x3 : Int) ≤ 255 := by omega
        have r0 : (j0 : Int) < 64 := by omega
        have s0 : (0 : Int) ≤ (j0 : Int) := by omega
        have q0 := gw hsz p0
        have r1 : (j1 : Int) < 64 := by omega
        have s1 : (0 : Int) ≤ (j1 : Int) := by omega
        have q1 := gw hsz p1
        have r2 : (j2 : Int) < 64 := by omega
        have s2 : (0 : Int) ≤ (j2 : Int) := by omega
        have q2 := gw hsz p2
        have r3 : (j3 : Int) < 64 := by omega
        have s3 : (0 : Int) ≤ (j3 : Int) := by omega
        have q3 := gw hsz p3
        have z0 : (i : Int) < 16 := by omega
        have HRd := Lib.hid (Kd.R_below HR.out (stay0 wr))
        have HBd := Lib.hid (show Below w.heap.size w wr.drew from HB.out.drew)
        have HLn := Lib.hid (show (nat ((w16 b).take i)).length ≤ 16 from by rw [nat_length, List.length_take, w16_length]; omega)
        clear hlt HJ hsz p0 p1 p2 p3 l0 l1 l2 l3 hw hx0 hx1 hx2 hx3 hj0 hj1 hj2 hj3 hy0 hy1 hy2 ht1 ht2 ht3
        generalize nat ((w16 b).take i) = X at *
        go_wp2_with fail
        refine Q.wp_region_segsG none [([0, 1, 2, 3, 4, 5, 6, 7, 8, 9, 10, 11, 12, 13, 14, 15, 16, 17, 18, 19, 20, 21, 22, 23, 24, 25, 26, 27, 28, 29, 30, 31, 32, 33], some 34)] [] 35 [36] (by kernel_rfl) (by kernel_rfl) (by kernel_rfl) (by kernel_rfl) ?_
        dsimp only [Q.wpSegsG, Q.picks, Q.pick]
        repeat (go_big_quiet_step (fail))
        refine wpQuiet_nil ?_
        clear q0 q1 q2 q3 e0 e1 e2 e3 e4 e5 m0 m1 m2 m3
        go_wp2_with fail
        refine Q.ev_keep ((Below.refl _ _).alloc (Nat.le_refl _) _) (Nat.le_refl _) ?_
        refine wpQuiet_nil ?_
        refine app1 (w0 := w) .u32 w.heap.size (.tmp 12) (.tmp 46) 86 33 4 rfl rfl Try.underlying86 info_w32 (by decide) u3 X (t3 : Int) rfl rfl HRd.out HBd.out HBd.out.size (by have := HLn.out; omega) ?_
        intro v8 w8 hr8 hb8 _
        have HR8 := Lib.hid hr8
        have HB8n := Lib.hid hb8
        clear hr8 hb8
        go_wp2_with fail
        refine NoPanic.normal ?_
        go_wp2_with fail
        go_roundg k
        case measure => have := HJ'.out; omega
        case rel => exact ⟨i + 1, by go_num, Lib.hid (by have := HJ'.out; omega), Lib.hid (by rw [HSn.out]; exact HR8.out), HB8n⟩
      · obtain rfl : i = 16 := by have := HJ.out; omega
        have HR0 := Lib.hid (show (Kd.int .u32).R 33 wr w.heap.size (fun _ => True) u3 (nat (extW 0 (w16 b))) from by have := HR.out; rwa [List.take_of_length_le (by rw [w16_length]; exact Nat.le_refl _)] at this)
        clear hlt HJ HR
        go_wp2_with fail
        go_loopg [3, 5] 49 (fun g v3 v5 w' => ∃ n m : Nat, v5 = .int .i64 (m : Int) ∧ Hid (m = 16 + n ∧ n ≤ 48 ∧ 48 < g + n) ∧ Hid ((Kd.int .u32).R 33 w' w.heap.size (fun _ => True) v3 (nat (extW n (w16 b)))) ∧ Hid (Below w.heap.size w w'))
        case atStart => exact ⟨0, 16, rfl, Lib.hid ⟨by omega, by omega, by omega⟩, HR0, HB⟩
        case round =>
          obtain ⟨n, m, rfl, HJ, HR, HB⟩ := hrel
          clear HR0
          cases gk with
          | zero => have := HJ.out; omega
          | succ k =>
            by_cases hlt : n < 48
            · have HJ' := Lib.hid (show m = 16 + n ∧ n < 48 ∧ 48 < (k + 1) + n from ⟨HJ.out.1, hlt, HJ.out.2.2⟩)
              have hel := extW_length (w16_length b) n
              obtain ⟨g, cap, rfl, hcap, hgB, hg⟩ := R_openK HR.out (by omega)
              have pa := (R_atK HR.out (j := n) (by omega)).1
              have la := getD_lt (show n < (extW n (w16 b)).length by omega) (HW8.out n)
              have pc := (R_atK HR.out (j := n + 9) (by omega)).1
              have lc := getD_lt (show n + 9 < (extW n (w16 b)).length by omega) (HW8.out n)
              have px := (R_atK HR.out (j := n + 1) (by omega)).1
              have lx := getD_lt (show n + 1 < (extW n (w16 b)).length by omega) (HW8.out n)
              have py := (R_atK HR.out (j := n + 14) (by omega)).1
              have ly := getD_lt (show n + 14 < (extW n (w16 b)).length by omega) (HW8.out n)
              have hwx : extW (n + 1) (w16 b) = extW n (w16 b) ++ [add32 (add32 (add32 ((extW n (w16 b)).getD n 0) ((extW n (w16 b)).getD (n + 9) 0)) (sg0 ((extW n (w16 b)).getD (n + 1) 0))) (sg1 ((extW n (w16 b)).getD (n + 14) 0))] := by
                rw [extW_succ]
                unfold wx
                rw [show 16 + n - 16 = n from by omega, show 16 + n - 7 = n + 9 from by omega, show 16 + n - 15 = n + 1 from by omega, show 16 + n - 2 = n + 14 from by omega]
              obtain ⟨va, hva⟩ : ∃ x, (extW n (w16 b)).getD (n) 0 = x := ⟨_, rfl⟩
              rw [hva] at pa la hwx
              obtain ⟨vc, hvc⟩ : ∃ x, (extW n (w16 b)).getD (n + 9) 0 = x := ⟨_, rfl⟩
              rw [hvc] at pc lc hwx
              obtain ⟨vx, hvx⟩ : ∃ x, (extW n (w16 b)).getD (n + 1) 0 = x := ⟨_, rfl⟩
              rw [hvx] at px lx hwx
              obtain ⟨vy, hvy⟩ : ∃ x, (extW n (w16 b)).getD (n + 14) 0 = x := ⟨_, rfl⟩
              rw [hvy] at py ly hwx
              obtain ⟨a1, a2, a3, a4, b1, b2, b3, e1, e2, e3, e4, e5, e6, e7, he⟩ := words_rules vx vy va vc lx ly
              rw [← he] at hwx
              have HT7 := Lib.hid (fun W => rturn_any vx 7 W lx (by decide))
              have HT18 := Lib.hid (fun W => rturn_any vx 18 W lx (by decide))
              have HD3 := Lib.hid (fun W => rdown_any vx 3 W lx (by decide))
              have HT17 := Lib.hid (fun W => rturn_any vy 17 W ly (by decide))
              have HT19 := Lib.hid (fun W => rturn_any vy 19 W ly (by decide))
              have HD10 := Lib.hid (fun W => rdown_any vy 10 W ly (by decide))
              generalize rot vx 7 = f1 at e1 e2 e3 e4 HT7 HT18 HD3 HT17 HT19 HD10
              generalize rot vx 18 = f2 at e1 e2 e3 e4 HT7 HT18 HD3 HT17 HT19 HD10
              generalize vx / 2 ^ 3 = f3 at e1 e2 e3 e4 HT7 HT18 HD3 HT17 HT19 HD10
              generalize rot vy 17 = f4 at e1 e2 e3 e4 HT7 HT18 HD3 HT17 HT19 HD10
              generalize rot vy 19 = f5 at e1 e2 e3 e4 HT7 HT18 HD3 HT17 HT19 HD10
              generalize vy / 2 ^ 10 = f6 at e1 e2 e3 e4 HT7 HT18 HD3 HT17 HT19 HD10
              obtain ⟨n14, hn14⟩ : ∃ x, n + 14 = x := ⟨_, rfl⟩
              rw [hn14] at py
              obtain ⟨n9, hn9⟩ : ∃ x, n + 9 = x := ⟨_, rfl⟩
              rw [hn9] at pc
              obtain ⟨n1, hn1⟩ : ∃ x, n + 1 = x := ⟨_, rfl⟩
              rw [hn1] at px
              have HEx := Lib.hid (show nat (extW (n + 1) (w16 b)) = nat (extW n (w16 b)) ++ [(b3 : Int)] from by rw [hwx, nat_app]; rfl)
              have HLn := Lib.hid (show (nat (extW n (w16 b))).length ≤ 64 from by rw [nat_length]; omega)
              have m0 : (m : Int) - 16 = (n : Int) := by have := HJ'.out; omega
              have m1 : (m : Int) - 15 = (n1 : Int) := by have := HJ'.out; omega
              have m2 : (m : Int) - 2 = (n14 : Int) := by have := HJ'.out; omega
              have m3 : (m : Int) - 7 = (n9 : Int) := by have := HJ'.out; omega
              obtain ⟨ln, hln⟩ : ∃ x, (extW n (w16 b)).length = x := ⟨_, rfl⟩
              rw [hln] at HR ⊢
              have z0 : (m : Int) < 64 := by have := HJ'.out; omega
              have z1 : (0 : Int) ≤ (n : Int) := by omega
              have z2 : (0 : Int) ≤ (n1 : Int) := by omega
              have z3 : (0 : Int) ≤ (n9 : Int) := by omega
              have z4 : (0 : Int) ≤ (n14 : Int) := by omega
              have z5 : (n : Int) < (ln : Int) := by omega
              have z6 : (n1 : Int) < (ln : Int) := by omega
              have z7 : (n9 : Int) < (ln : Int) := by omega
              have z8 : (n14 : Int) < (ln : Int) := by omega
              have z9 : (16 : Int) ≤ (m : Int) := by have := HJ'.out; omega
              have qx := gw hg px
              have qy := gw hg py
              have HPa := Lib.hid pa
              have HPc := Lib.hid pc
              have HG := Lib.hid hg
              clear hlt HJ hel hcap hgB hva hvc hvx hvy la lc lx ly hwx he hn14 hn9 hn1 hln pa pc px py hg
              generalize nat (extW n (w16 b)) = X at *
              go_wp2_with fail
              refine Q.wp_region_segs none [([0, 1, 2, 3, 4, 5, 6, 7, 8, 9, 10, 11], none)] (by kernel_rfl) (by kernel_rfl) (by kernel_rfl) (by kernel_rfl) ?_
              dsimp only [Q.wpSegs, Q.picks, Q.pick]
              repeat (go_big_quiet_step (fail))
              refine wpQuiet_nil ?_
              clear qx qy m1 m2
              refine NoPanic.normal ?_
              refine exit_at fun W2 hW2 => ?_
              have hb2 : Below wr.heap.size wr W2 := by rw [hW2]; exact stay0 wr
              have hg2 : g < W2.heap.size := Nat.lt_of_lt_of_le HG.out hb2.size
              have qa := gw hg2 (pw_cell_below hb2 HPa.out)
              have qc := gw hg2 (pw_cell_below hb2 HPc.out)
              have HRd := Lib.hid (Kd.R_below (Kd.R_below HR.out hb2) (stay0 W2))
              have HBd := Lib.hid (show Below w.heap.size w W2.drew from (HB.out.trans (hb2.mono HB.out.size)).drew)
              clear hW2 hb2 hg2 HPa HPc HR HB
              go_wp2_with fail
              refine Q.wp_region_segsG none [([0, 1, 2, 3, 4, 5, 6, 7, 8, 9, 10, 11, 12, 14, 17, 21, 23, 26], some 13), ([], some 15), ([16], some 18), ([19, 20], some 22), ([], some 24), ([25], some 27), ([28, 29], some 30)] [] 31 [32] (by kernel_rfl) (by kernel_rfl) (by kernel_rfl) (by kernel_rfl) ?_
              dsimp only [Q.wpSegsG, Q.picks, Q.pick]
              repeat (go_big_quiet_step (fail))
              refine wpQuiet_nil ?_
              clear qa qc m0 m3
              go_wp2_with fail
              refine (HT7.out _).mono ?_
              rintro e w3 ⟨rfl, hw3⟩
              rw [hw3]
              clear hw3 w3 HT7
              go_wp2_with fail
              refine Q.ev_keep (Below.refl _ _) (Nat.le_refl _) ?_
              repeat (go_big_quiet_step (fail))
              refine wpQuiet_nil ?_
              go_wp2_with fail
              refine (HT18.out _).mono ?_
              rintro e w3 ⟨rfl, hw3⟩
              rw [hw3]
              clear hw3 w3 HT18
              go_wp2_with fail
              refine Q.ev_keep (Below.refl _ _) (Nat.le_refl _) ?_
              repeat (go_big_quiet_step (fail))
              refine wpQuiet_nil ?_
              go_wp2_with fail
              refine (HD3.out _).mono ?_
              rintro e w3 ⟨rfl, hw3⟩
              rw [hw3]
              clear hw3 w3 HD3
              go_wp2_with fail
              refine Q.ev_keep (Below.refl _ _) (Nat.le_refl _) ?_
              repeat (go_big_quiet_step (fail))
              refine wpQuiet_nil ?_
              go_wp2_with fail
              refine (HT17.out _).mono ?_
              rintro e w3 ⟨rfl, hw3⟩
              rw [hw3]
              clear hw3 w3 HT17
              go_wp2_with fail
              refine Q.ev_keep (Below.refl _ _) (Nat.le_refl _) ?_
              repeat (go_big_quiet_step (fail))
              refine wpQuiet_nil ?_
              go_wp2_with fail
              refine (HT19.out _).mono ?_
              rintro e w3 ⟨rfl, hw3⟩
              rw [hw3]
              clear hw3 w3 HT19
              go_wp2_with fail
              refine Q.ev_keep (Below.refl _ _) (Nat.le_refl _) ?_
              repeat (go_big_quiet_step (fail))
              refine wpQuiet_nil ?_
              go_wp2_with fail
              refine (HD10.out _).mono ?_
              rintro e w3 ⟨rfl, hw3⟩
              rw [hw3]
              clear hw3 w3 HD10
              go_wp2_with fail
              refine Q.ev_keep (Below.refl _ _) (Nat.le_refl _) ?_
              repeat (go_big_quiet_step (fail))
              refine wpQuiet_nil ?_
              go_wp2_with fail
              refine Q.ev_keep ((Below.refl _ _).alloc (Nat.le_refl _) _) (Nat.le_refl _) ?_
              refine wpQuiet_nil ?_
              refine app1 (w0 := w) .u32 w.heap.size (.tmp 62) (.tmp 92) 86 33 4 rfl rfl Try.underlying86 info_w32 (by decide) (.slice (some ⟨g, 0, none⟩) ln cap) X (b3 : Int) rfl rfl HRd.out HBd.out HBd.out.size (by have := HLn.out; omega) ?_
              intro v8 w8 hr8 hb8 _
              have HR8 := Lib.hid hr8
              have HB8n := Lib.hid hb8
              clear hr8 hb8 e1 e2 e3 e4 e5 e6 e7
              go_wp2_with fail
              refine NoPanic.normal ?_
              go_wp2_with fail
              go_roundg k
              case measure => have := HJ'.out; omega
              case rel => exact ⟨n + 1, m + 1, by go_num, Lib.hid (by have := HJ'.out; omega), Lib.hid (by rw [HEx.out]; exact HR8.out), HB8n⟩
            · obtain rfl : n = 48 := by have := HJ.out; omega
              obtain rfl : m = 64 := by have := HJ.out; omega
              clear hlt HJ
              go_wp2_with fail
              go_ret
              exact ⟨_, rfl, HR.out, HB.out⟩
end Go.Proofs.Ytagfplcafeblbaa.H
