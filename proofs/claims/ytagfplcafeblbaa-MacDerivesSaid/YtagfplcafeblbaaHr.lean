/-
  sha: the document's carried and mul.
-/
import Derived.Test.YtagfplcafeblbaaHq
namespace Go.Proofs.Ytagfplcafeblbaa.H
open Go.RowKit Go.Proofs.Ytagfplcafeblbaa.L Go.Proofs.Ytagfplcafeblbaa.N Go.Proofs.YtagfplcafeblbaaW.PrintWords

set_option maxRecDepth 100000 in
set_option maxHeartbeats 1600000 in
theorem carried_any (l : List Nat) (n : Nat) (A : Option Addr) (c : Nat) (w : World) (hn : l.length = n) (hC : (Kd.int .u64).C w A n (nat l)) (hl : n ≤ 100) (hb : ∀ x ∈ l, x < 2 ^ 50) (hv : val l < 4096 ^ n) :
    Calls Try.prog 73 #[.slice A n c] w fun e w' => ∃ v, e = .returned v ∧ (Kd.int .u64).R 84 w' w.heap.size (fun _ => True) v (nat (digs n (val l))) ∧ Below w.heap.size w w' := by
  subst hn
  have HC := Lib.hid hC
  have HL := Lib.hid hl
  have HV := Lib.hid hv
  have HX := Lib.hid (fun i (h : i < l.length) => getD_lt h hb)
  have HS := Lib.hid (fun i => digs_snoc i (val l))
  have HN := Lib.hid (fun i => digs_length i (val l))
  have z1 : (l.length : Int) ≤ 100 := by omega
  have HD := Lib.hid (fun i c (h : Car l i c) (hi : i < l.length) => h.digit hi)
  clear hC hl hb hv
  go_enter Try.func73, Try.ntmps73
  go_wp2_with fail
  go_loopg [3, 4, 5] (l.length + 1) (fun g v3 v4 v5 w' => ∃ i c : Nat, v5 = .int .i64 (i : Int) ∧ v4 = .int .u64 (c : Int) ∧ Hid (i ≤ l.length ∧ l.length < g + i) ∧ Hid (Car l i c) ∧ Hid ((Kd.int .u64).R 84 w' w.heap.size (fun _ => True) v3 (nat (digs i (val l)))) ∧ Hid (Below w.heap.size w w'))
  case atStart => exact ⟨0, 0, rfl, rfl, Lib.hid ⟨by omega, by omega⟩, Lib.hid (Car.start l), Lib.hid (Kd.R_nil _ _ _ _ _), Lib.hid (Below.refl _ _)⟩
  case round =>
    obtain ⟨i, c, rfl, rfl, HJ, HK, HR, HB⟩ := hrel
    cases gk with
    | zero => have := HJ.out; omega
    | succ k =>
      by_cases hlt : i < l.length
      · have HJ' := Lib.hid (show i < l.length ∧ l.length < (k + 1) + i from ⟨hlt, HJ.out.2⟩)
        obtain ⟨b, off, rfl, hbk, hcell⟩ := B_at (Kd.C_below HC.out HB.out) (by omega)
        have p1 := hcell i hlt
        have hx := HX.out i hlt
        have hcl := HK.out.lt
        have hdg := HD.out i c HK.out hlt
        have hst := HK.out.step hlt hx
        obtain ⟨x, hxx⟩ : ∃ x, l.getD i 0 = x := ⟨_, rfl⟩
        rw [hxx] at p1 hx hdg hst
        obtain ⟨s, hs⟩ : ∃ s, c + x = s := ⟨_, rfl⟩
        rw [hs] at hdg hst
        obtain ⟨d, hd⟩ : ∃ d, s % 4096 = d := ⟨_, rfl⟩
        obtain ⟨q, hq⟩ : ∃ q, s / 4096 = q := ⟨_, rfl⟩
        rw [hd] at hdg
        rw [hq] at hst
        have HDg := Lib.hid (show nat (digs (i + 1) (val l)) = nat (digs i (val l)) ++ [(d : Int)] from by rw [HS.out i, ← hdg, nat_app]; rfl)
        have HSt := Lib.hid hst
        have HLn := Lib.hid (show (nat (digs i (val l))).length = i from by rw [nat_length, HN.out])
        have q1 : (c : Int) + (x : Int) = (s : Int) := by omega
        have q2 : (s : Int) % 4096 = (d : Int) := by omega
        have q3 : (s : Int) / 4096 = (q : Int) := by omega
        have z2 : (i : Int) < (l.length : Int) := by omega
        have z3 : (0 : Int) ≤ (i : Int) := by omega
        have z4 : (c : Int) ≤ 2251799813685248 := by omega
        have z5 : (x : Int) ≤ 1125899906842624 := by omega
        have z6 : (0 : Int) ≤ (s : Int) := by omega
        have z7 : (s : Int) ≤ 3377699720527872 := by omega
        have z8 : decide ((i : Int) < (l.length : Int)) = true := decide_eq_true z2
        have z9 : decide (i < l.length) = true := decide_eq_true hlt
        clear hlt HJ hbk hcell hx hcl hdg hst hxx hs hd hq HK HX HS HD
        generalize nat (digs i (val l)) = D at *
        go_wp2_with (at_builtin; refine app1 (w0 := w) .u64 w.heap.size (.tmp 26) (.tmp 29) 116 84 8 rfl rfl Try.underlying116 info_u64 (by decide) u3 D (d : Int) rfl rfl HR.out HB.out HB.out.size (by have := HLn.out; have := HJ'.out; have := HL.out; omega) ?_; intro v8 w8 hr8 hb8 _; (have HR8 := Lib.hid hr8); (have HB8 := Lib.hid hb8); clear hr8 hb8)
        go_roundg k
        case measure => have := HJ'.out; omega
        case rel => exact ⟨i + 1, q, by go_num, rfl, Lib.hid (by have := HJ'.out; omega), HSt, Lib.hid (by rw [HDg.out]; exact HR8.out), HB8⟩
      · obtain rfl : i = l.length := by have := HJ.out; omega
        obtain rfl : c = 0 := HK.out.stop HV.out
        clear hlt HJ
        go_wp2_with fail
        go_ret
        exact ⟨_, rfl, HR.out, HB.out⟩

theorem val_mul_lt {a b : List Nat} (ha : ∀ x ∈ a, x < 4096) (hb : ∀ x ∈ b, x < 4096) : val a * val b < 4096 ^ (a.length + b.length) := by
  rw [Nat.pow_add]
  exact Nat.mul_lt_mul'' (val_lt a ha) (val_lt b hb)
theorem mem_getD_lt {o : List Nat} {m : Nat} (h : ∀ j, o.getD j 0 < m) : ∀ x ∈ o, x < m := by
  intro x hx
  obtain ⟨j, hj, rfl⟩ := List.mem_iff_getElem.1 hx
  have := h j
  rwa [List.getD_eq_getElem?_getD, List.getElem?_eq_getElem hj] at this
set_option maxRecDepth 100000 in
set_option maxHeartbeats 3200000 in
theorem mul_any (a b : List Nat) (n m : Nat) (A B : Option Addr) (ca cb : Nat) (w : World) (hn : a.length = n) (hm : b.length = m) (hA : (Kd.int .u64).C w A n (nat a)) (hB : (Kd.int .u64).C w B m (nat b)) (ha : ∀ x ∈ a, x < 4096) (hb : ∀ x ∈ b, x < 4096) (hl : 0 < n ∧ n ≤ 8) (hk : 0 < m ∧ m ≤ 8) :
    Calls Try.prog 72 #[.slice A n ca, .slice B m cb] w fun e w' => ∃ v, e = .returned v ∧ (Kd.int .u64).R 84 w' w.heap.size (fun _ => True) v (nat (digs (n + m) (val a * val b))) ∧ Below w.heap.size w w' := by
  subst hn
  subst hm
  have HA := Lib.hid hA
  have HB := Lib.hid hB
  have HA8 := Lib.hid ha
  have HB8 := Lib.hid hb
  have HL := Lib.hid hl
  have HM := Lib.hid hk
  have HVl := Lib.hid (val_mul_lt ha hb)
  have HMs := Lib.hid (Mul.start a b)
  obtain ⟨t, ht⟩ : ∃ t, a.length + b.length = t := ⟨_, rfl⟩
  have HT := Lib.hid ht
  have q1 : (a.length : Int) + (b.length : Int) = (t : Int) := by omega
  have z1 : (a.length : Int) ≤ 8 := by omega
  have z2 : (b.length : Int) ≤ 8 := by omega
  have z3 : (0 : Int) < (a.length : Int) := by omega
  have z4 : (0 : Int) < (b.length : Int) := by omega
  have z5 : (t : Int) ≤ 16 := by omega
  have z6 : (0 : Int) ≤ (t : Int) := by omega
  have hmk := make_u64 t (t : Int) rfl (by omega)
  rw [ht] at HMs
  obtain ⟨bA, oA, eA, hbA, hcA⟩ := B_at hA hl.1
  obtain ⟨bB, oB, eB, hbB, hcB⟩ := B_at hB hk.1
  have HcA := Lib.hid (fun i (hi : i < a.length) W (hW : Below w.heap.size w W) => pw_cell_below hW (hcA i hi))
  have HcB := Lib.hid (fun i (hi : i < b.length) W (hW : Below w.heap.size w W) => pw_cell_below hW (hcB i hi))
  have HbA := Lib.hid (show bA < w.heap.size ∧ bB < w.heap.size from ⟨hbA, hbB⟩)
  subst eA
  subst eB
  clear hA hB ha hb hl hk ht hcA hcB hbA hbB
  go_enter Try.func72, Try.ntmps72
  go_wp2_with fail
  refine exit_at fun W1 hW1 => ?_
  have HO := Lib.hid (show AB .u64 84 w.heap.size (List.replicate t 0) W1 from by rw [hW1]; exact AB.mk w .u64 84 _)
  have HB1 := Lib.hid (show Below w.heap.size w W1 from by rw [hW1]; exact (Below.refl _ _).alloc (Nat.le_refl _) _)
  clear hW1 hmk
  have HG := Lib.hid (show w.heap.size = w.heap.size from rfl)
  go_wp2_with fail
  go_loopg [6] (a.length + 1) (fun g v6 w' => ∃ (i : Nat) (o : List Nat), v6 = .int .i64 (i : Int) ∧ Hid (i ≤ a.length ∧ a.length < g + i) ∧ Hid (Mul a b i 0 o) ∧ Hid (AB .u64 84 w.heap.size o w') ∧ Hid (Below w.heap.size w w'))
  case atStart => exact ⟨0, _, rfl, Lib.hid ⟨by omega, by omega⟩, HMs, HO, HB1⟩
  case round =>
    obtain ⟨i, o, rfl, HJ, HMu, HAb, HBl⟩ := hrel
    clear HMs HO HB1
    cases gk with
    | zero => have := HJ.out; omega
    | succ k =>
      by_cases hlt : i < a.length
      · have HJ' := Lib.hid (show i < a.length ∧ a.length < (k + 1) + i from ⟨hlt, HJ.out.2⟩)
        have y2 : (i : Int) < (a.length : Int) := by omega
        have y3 : (0 : Int) ≤ (i : Int) := by omega
        clear hlt HJ
        go_wp2_with fail
        go_loopg [7] (b.length + 1) (fun g v7 w' => ∃ (j : Nat) (o : List Nat), v7 = .int .i64 (j : Int) ∧ Hid (j ≤ b.length ∧ b.length < g + j) ∧ Hid (Mul a b i j o) ∧ Hid (AB .u64 84 w.heap.size o w') ∧ Hid (Below w.heap.size w w'))
        case atStart => exact ⟨0, o, rfl, Lib.hid ⟨by omega, by omega⟩, HMu, HAb, HBl⟩
        case round =>
          obtain ⟨j, o, rfl, HQ, HMu, HAb, HBl⟩ := hrel
          cases gk with
          | zero => have := HQ.out; omega
          | succ k2 =>
            by_cases hlt : j < b.length
            · have HQ' := Lib.hid (show j < b.length ∧ b.length < (k2 + 1) + j from ⟨hlt, HQ.out.2⟩)
              have HMn := Lib.hid (HMu.out.step HA8.out HB8.out HJ'.out.1 hlt)
              have hol : i + j < o.length := by have := HMu.out.len; have := HJ'.out; omega
              have k1 := HAb.out.cell hol
              have k2' := HAb.out.fz (i + j)
              have k3 := HcA.out i HJ'.out.1 wr HBl.out
              have k4 := HcB.out j hlt wr HBl.out
              have hsz := HBl.out.size
              have hxo := HMu.out.lt (i + j)
              have hya := getD_lt HJ'.out.1 HA8.out
              have hyb := getD_lt hlt HB8.out
              have hlin : i * b.length + j ≤ 100 := by
                have h1 := HJ'.out.1
                have h2 := HL.out
                have h3 := HM.out
                have : i * b.length ≤ 8 * 8 := Nat.mul_le_mul (by omega) (by omega)
                omega
              have hob : w.heap.size < wr.heap.size := HAb.out.lt
              have hba : bA < wr.heap.size := by have := HbA.out; omega
              have hbb : bB < wr.heap.size := by have := HbA.out; omega
              obtain ⟨x, hx⟩ : ∃ x, o.getD (i + j) 0 = x := ⟨_, rfl⟩
              obtain ⟨ya, hya'⟩ : ∃ x, a.getD i 0 = x := ⟨_, rfl⟩
              obtain ⟨yb, hyb'⟩ : ∃ x, b.getD j 0 = x := ⟨_, rfl⟩
              rw [hx] at k1 hxo HMn
              rw [hya'] at k3 hya HMn
              rw [hyb'] at k4 hyb HMn
              obtain ⟨u, hu⟩ : ∃ u, ya * yb = u := ⟨_, rfl⟩
              have hub : u ≤ 4095 * 4095 := by rw [← hu]; exact Nat.mul_le_mul (by omega) (by omega)
              rw [hu] at HMn
              obtain ⟨s, hs⟩ : ∃ s, x + u = s := ⟨_, rfl⟩
              rw [hs] at HMn
              obtain ⟨p, hp⟩ : ∃ p, i + j = p := ⟨_, rfl⟩
              rw [hp] at k1 k2' hol HMn
              have e1 : (ya : Int) * (yb : Int) = (u : Int) := by rw [← hu]; exact (Int.natCast_mul ya yb).symm
              have e2 : (x : Int) + (u : Int) = (s : Int) := by omega
              have e3 : (i : Int) + (j : Int) = (p : Int) := by omega
              have e4 : IntKind.u64.wrap ((ya : Int) * (yb : Int)) = (u : Int) := by rw [e1]; exact wraps_u64 _ (by omega) (by omega)
              have e5 : IntKind.u64.wrap ((x : Int) + (u : Int)) = (s : Int) := by
                rw [e2]; exact wraps_u64 _ (by omega) (by omega)
              have e6 : IntKind.i64.wrap ((i : Int) + (j : Int)) = (p : Int) := by rw [e3]; exact IntWalk.i64_in _ (by omega)
              have e7 : IntKind.u64.wrap (u : Int) = (u : Int) := wraps_u64 _ (by omega) (by omega)
              have g1 := gw hob k1
              have g2 := gw hba k3
              have g3 := gw hbb k4
              have k1d : wr.drew.cell? ⟨w.heap.size, p, none⟩ = some (.int .u64 (x : Int)) := k1
              have k2d : wr.drew.frozen? ⟨w.heap.size, p, none⟩ = false := k2'
              have y4 : (j : Int) < (b.length : Int) := by omega
              have y5 : (0 : Int) ≤ (j : Int) := by omega
              have y6 : (p : Int) < (t : Int) := by have := HT.out; have := HMu.out.len; omega
              have y7 : (0 : Int) ≤ (p : Int) := by omega
              clear k1 k2' k3 k4 hsz hxo hya hyb hlin hob hba hbb hx hya' hyb' hu hub hs hp hol hlt HQ e2
              go_wp2_with fail
              refine Q.wp_region_segsF none [] [0, 1, 2, 3, 4, 5, 6, 7, 8, 9, 10, 11, 12, 13, 14, 15, 16, 17, 18, 19, 20] 21 (by kernel_rfl) (by kernel_rfl) (by kernel_rfl) (by kernel_rfl) ?_
              dsimp only [Q.wpSegsF, Q.picks, Q.pick]
              repeat (go_big_quiet_step (fail))
              refine wpQuiet_nil ?_
              clear g1 g2 g3
              go_wp2_with fail
              refine NoPanic.normal ?_
              clear k1d k2d e1 e3 e4 e5 e6 e7
              refine exit_at fun W5 hW5 => ?_
              have HAb5 := Lib.hid (show AB .u64 84 w.heap.size (o.set p s) W5 from by rw [hW5]; exact (HAb.out.set p s).drew)
              have HBl5 := Lib.hid (show Below w.heap.size w W5 from by rw [hW5]; exact (HBl.out.grown (grown_set wr w.heap.size p _) HBl.out.size (fun k hk => by injection hk with hk; omega)).drew)
              clear hW5
              go_wp2_with fail
              go_roundg k2
              case measure => have := HQ'.out; omega
              case rel => exact ⟨j + 1, _, by go_num, Lib.hid (by have := HQ'.out; omega), HMn, HAb5, HBl5⟩
            · obtain rfl : j = b.length := by have := HQ.out; omega
              have HMn := Lib.hid (HMu.out.next HJ'.out.1)
              clear hlt HQ
              go_wp2_with fail
              go_roundg k
              case measure => have := HJ'.out; omega
              case rel => exact ⟨i + 1, o, by go_num, Lib.hid (by have := HJ'.out; omega), HMn, HAb, HBl⟩
      · obtain rfl : i = a.length := by have := HJ.out; omega
        have hol := HMu.out.len
        rw [HT.out] at hol
        have hvo := HMu.out.all
        have ho50 : ∀ x ∈ o, x < 2 ^ 50 := mem_getD_lt fun j => by
          have h1 := HMu.out.lt j
          have h2 : a.length * b.length ≤ 8 * 8 := Nat.mul_le_mul HL.out.2 HM.out.2
          omega
        have hrow := rowK HAb.out (by rw [hol]; have := HT.out; have := HL.out; have := HM.out; unfold maxLen; omega)
        rw [hol] at hrow
        have hq := carried_any o t (some ⟨w.heap.size, 0, none⟩) t wr hol hrow (by have := HT.out; have := HL.out; have := HM.out; omega) ho50 (by rw [hvo, ← HT.out]; exact HVl.out)
        rw [hvo] at hq
        have HQ := Lib.hid hq
        clear hlt HJ hol hvo ho50 hrow hq
        go_wp2_with fail
        refine HQ.out.mono ?_
        rintro e w9 ⟨v9, rfl, hr9, hb9⟩
        have HR9 := Lib.hid (Kd.R_lower hr9 HBl.out.size)
        have HB9 := Lib.hid (HBl.out.trans (hb9.mono HBl.out.size))
        clear hr9 hb9
        go_wp2_with fail
        go_ret
        exact ⟨_, rfl, by rw [HT.out]; exact HR9.out, HB9.out⟩
end Go.Proofs.Ytagfplcafeblbaa.H
