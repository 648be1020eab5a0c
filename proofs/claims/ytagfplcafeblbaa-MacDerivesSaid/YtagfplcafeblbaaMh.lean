/-
  mac: the document's With.
-/
import Derived.Test.YtagfplcafeblbaaHz
import Derived.Test.YtagfplcafeblbaaMa
namespace Go.Proofs.Ytagfplcafeblbaa.Mc
open Go.RowKit Go.Proofs.Ytagfplcafeblbaa.L Go.Proofs.Ytagfplcafeblbaa.N Go.Proofs.Ytagfplcafeblbaa.H Go.Proofs.YtagfplcafeblbaaW.PrintWords

section
variable {P : Program} {ops : Array Oper} {rest : List Oper} {o : Oper} {a : Act} {Q : Exit → Act → World → Prop}
/-- append(s, ys...), and where it lies -/
theorem appna {w0 W : World} (k : IntKind) (B : Nat) (s x : Operand) (t e : TypeId) (bytes : Nat) (hgd : o.guard = none)
    (ho : o.op = .call { callee := .builtin .append, args := #[s, x], argTypes := #[t, t] }) (ht : P.underlying t = some (.slice e))
    (hinfo : (P.info? e).map (fun i => (i.zero, i.size, i.bytes)) = some (some (.int k 0), 1, bytes)) (hb0 : 0 < bytes)
    (v : Value) (xs ys : List Int) (A : Option Addr) (m c : Nat) (hs : a.eval s = v) (hx : a.eval x = .slice A m c)
    (HO : (Kd.int k).R e W B (fun _ => True) v xs) (HR : (Kd.int k).C W A m ys) (HB : Below B w0 W) (hB : B ≤ W.heap.size) (hl : (xs.length + m) * bytes ≤ 140737488355328)
    (h : ∀ v1 w1, (Kd.int k).R e w1 B (fun _ => True) v1 (xs ++ ys) → Below B w0 w1 → W.grownBy w1 v.ownBlock → (v1.ownBlock = v.ownBlock ∨ ∃ b, v1.ownBlock = some b ∧ W.heap.size ≤ b) → wpList P ops Q rest (a.put o.dst v1) w1) :
    wpList P ops Q (o :: rest) a W :=
  Kd.R_append_row (Value.int k) 0 B hgd s x t e (.int k 0) bytes ho ht hinfo rfl hb0 v xs ys A m c (fun _ => True) hs hx (fun _ _ => trivial) HO HR HB hB hl h
end
theorem bsN_form (key : List Nat) : bsN key = kkN key ++ List.replicate (64 - (kkN key).length) 0 := by unfold bsN; rfl
theorem pd_take {key : List Nat} {y i x z : Nat} (hi : i < 64) (hx : (bsN key).getD i 0 = x) (hz : x ^^^ y = z) : nat ((pdN key y).take (i + 1)) = nat ((pdN key y).take i) ++ [(z : Int)] := by
  rw [← nat_snoc (by rw [pdN_len]; exact hi), pdN_get key y hi, hx, hz]
theorem mark_form (key b : List Nat) : markN key b = shaN (pdN key 92 ++ shaN (pdN key 54 ++ b)) := by unfold markN; rfl
set_option maxRecDepth 100000 in
set_option maxHeartbeats 12800000 in
theorem rmac_any (key b : List Nat) (Ak As Akey Ab : Option Addr) (ck cs ckey cb : Nat) (w : World) (hK : (Kd.int .u32).C w Ak 64 (nat kN)) (hS : (Kd.int .u32).C w As 8 (nat begN)) (hC : (Kd.int .u8).C w Akey key.length (nat key)) (hk8 : ∀ x ∈ key, x < 256) (hkl : key.length ≤ 100000) (hB : (Kd.int .u8).C w Ab b.length (nat b)) (hb8 : ∀ x ∈ b, x < 256) (hbl : b.length ≤ 100000) :
    Calls Try.prog 52 #[.slice Ak 64 ck, .slice As 8 cs, .slice Akey key.length ckey, .slice Ab b.length cb] w fun e w' => ∃ v, e = .returned v ∧ (Kd.int .u8).R 5 w' w.heap.size (fun _ => True) v (nat (markN key b)) ∧ Below w.heap.size w w' := by
  have HK := Lib.hid hK
  have HS := Lib.hid hS
  have HC := Lib.hid hC
  have HK8 := Lib.hid hk8
  have HKl := Lib.hid hkl
  have HBb := Lib.hid hB
  have HB8 := Lib.hid hb8
  have HBl := Lib.hid hbl
  have z1 : (key.length : Int) ≤ 100000 := by omega
  have z2 : (b.length : Int) ≤ 100000 := by omega
  clear hK hS hC hk8 hkl hB hb8 hbl
  by_cases hgt : 64 < key.length
  · have t1 : (64 : Int) < (key.length : Int) := by omega
    have t2 : decide ((64 : Int) < (key.length : Int)) = true := decide_eq_true t1
    have HKk := Lib.hid (show kkN key = shaN key from by unfold kkN; rw [if_pos hgt])
    obtain ⟨KK, hKK⟩ : ∃ K, shaN key = K := ⟨_, rfl⟩
    have HKn0 := Lib.hid (show KK.length = 32 from by rw [← hKK]; exact shaN_length key)
    have HKq := Lib.hid hKK
    rw [hKK] at HKk
    clear hgt hKK
    go_enter Try.func52, Try.ntmps52
    go_wp2_with (at_builtin; refine appn (w0 := w) .u8 w.heap.size (.tmp 13) (.tmp 14) 22 5 1 rfl rfl Try.underlying22 info_u8 (by decide) (.slice none 0 0) [] (nat key) Akey _ ckey rfl rfl (Kd.R_nil _ _ _ _ _) HC.out (Below.refl _ _) (Nat.le_refl _) (by have := HKl.out; simp; omega) ?_; intro v1 w2 ho2 hb2 _; (have HO2 := Lib.hid (show (Kd.int .u8).R 5 w2 w.heap.size (fun _ => True) v1 (nat key) from by simpa using ho2)); (have HB2 := Lib.hid hb2); (obtain ⟨A1, c1, hv1, hc1, hC1⟩ := Kd.R_reads HO2.out); (rw [nat_length] at hv1 hC1); subst hv1; (have HC1 := Lib.hid hC1); clear ho2 hb2 hc1 hC1)
    have hq := rwith_any key A1 Ak As c1 ck cs w2 (by have := HKl.out; omega) HC1.out HK8.out (Kd.C_below HK.out HB2.out) (Kd.C_below HS.out HB2.out)
    rw [HKq.out] at hq
    have HQ := Lib.hid hq
    clear hq HO2 HC1
    refine HQ.out.mono ?_
    rintro e w3 ⟨v3, rfl, hr3, hb3⟩
    obtain ⟨A9, c9, hv9, hc9, hC9⟩ := Kd.R_reads hr3
    rw [nat_length, HKn0.out] at hv9
    subst hv9
    have HR9 := Lib.hid (Kd.R_lower hr3 HB2.out.size)
    have HBx := Lib.hid (HB2.out.trans (hb3.mono HB2.out.size))
    obtain ⟨n9, hn9⟩ : ∃ n, 32 = n := ⟨_, rfl⟩
    have HKn := Lib.hid (show KK.length = n9 ∧ n9 ≤ 64 from ⟨by rw [HKn0.out, hn9], by omega⟩)
    rw [hn9] at HR9 ⊢
    clear hr3 hb3 hc9 hC9 HQ HB2 hn9
    go_wp2_with fail
    go_loopg [9] 65 (fun g v9 w' => ∃ (n : Nat) (A : Option Addr) (c : Nat), v9 = .slice A n c ∧ Hid (KK.length ≤ n ∧ n ≤ 64 ∧ 64 < g + n) ∧ Hid ((Kd.int .u8).R 5 w' w.heap.size (fun _ => True) (.slice A n c) (nat (KK ++ List.replicate (n - KK.length) 0))) ∧ Hid (Below w.heap.size w w'))
    case atStart => exact ⟨n9, A9, c9, rfl, Lib.hid (by have := HKn.out; omega), Lib.hid (by rw [show n9 - KK.length = 0 from by have := HKn.out; omega, List.replicate_zero, List.append_nil]; exact HR9.out), HBx⟩
    case round =>
      obtain ⟨n, A, c, rfl, HJ, HR, HB⟩ := hrel
      clear HR9 HBx
      cases gk with
      | zero => have := HJ.out; omega
      | succ k =>
        by_cases hlt : n < 64
        · have HJ' := Lib.hid (show KK.length ≤ n ∧ n < 64 ∧ 64 < (k + 1) + n from ⟨HJ.out.1, hlt, HJ.out.2.2⟩)
          have t0 : (n : Int) < 64 := by omega
          have HLn := Lib.hid (show (nat (KK ++ List.replicate (n - KK.length) 0)).length = n from by rw [nat_length, List.length_append, List.length_replicate]; have := HJ.out; omega)
          have HNx := Lib.hid (show nat (KK ++ List.replicate (n + 1 - KK.length) 0) = nat (KK ++ List.replicate (n - KK.length) 0) ++ [0] from by
            rw [show n + 1 - KK.length = (n - KK.length) + 1 from by have := HJ.out; omega, List.replicate_succ', ← List.append_assoc, nat_app]
            rfl)
          clear hlt HJ
          generalize nat (KK ++ List.replicate (n - KK.length) 0) = X at *
          go_wp2_with (at_builtin; refine app1 (w0 := w) .u8 w.heap.size (.tmp 26) (.tmp 27) 22 5 1 rfl rfl Try.underlying22 info_u8 (by decide) (.slice A n c) X 0 rfl rfl HR.out HB.out HB.out.size (by rw [HLn.out]; have := HJ'.out; omega) ?_; intro v4 w4 ho4 hb4 _; (have HO4 := Lib.hid ho4); (have HB4 := Lib.hid hb4); clear ho4 hb4)
          obtain ⟨A4, c4, hv4, hc4, hC4⟩ := Kd.R_reads HO4.out
          rw [List.length_append, HLn.out] at hv4
          have hv4' : v4 = .slice A4 (n + 1) c4 := hv4
          subst hv4'
          have HO5 := Lib.hid (show (Kd.int .u8).R 5 w4 w.heap.size (fun _ => True) (.slice A4 (n + 1) c4) (nat (KK ++ List.replicate (n + 1 - KK.length) 0)) from by rw [HNx.out]; exact HO4.out)
          clear HO4 hv4 hc4 hC4
          go_roundg k
          case measure => have := HJ'.out; omega
          case rel => exact ⟨n + 1, A4, c4, rfl, Lib.hid (by have := HJ'.out; omega), HO5, HB4⟩
        · obtain rfl : n = 64 := by have := HJ.out; omega
          have hrf := HR.out
          rw [← HKk.out, ← bsN_form] at hrf
          obtain ⟨gf, cf, hvf, hcf, hgf, hlf⟩ := R_openK hrf (by rw [bsN_len]; decide)
          rw [bsN_len] at hvf
          injection hvf with hv1 hv2 hv3
          subst hv1
          subst hv3
          have HCf := Lib.hid (fun i (hi : i < 64) W (hW : Below wr.heap.size wr W) => pw_cell_below hW (R_atK hrf (j := i) (by rw [bsN_len]; exact hi)).1)
          have HBf := Lib.hid (bsN_lt HK8.out)
          have HTk := Lib.hid (fun (y i x z : Nat) (hi : i < 64) (hx : (bsN key).getD i 0 = x) (hz : x ^^^ y = z) => pd_take hi hx hz)
          have HBn := Lib.hid (bsN_len key)
          clear hlt HJ HR hrf hcf hgf hlf hv2
          go_wp2_with fail
          obtain ⟨wo, rfl⟩ : ∃ wo : World, wo = wr := ⟨_, rfl⟩
          go_loopg [10, 11, 12] 65 (fun g v10 v11 v12 w' => ∃ i : Nat, v12 = .int .i64 (i : Int) ∧ Hid (i ≤ 64 ∧ 64 < g + i) ∧ Hid ((Kd.int .u8).R 5 w' wo.heap.size (fun _ => True) v10 (nat ((pdN key 54).take i))) ∧ Hid ((Kd.int .u8).R 5 w' wo.heap.size (fun _ => True) v11 (nat ((pdN key 92).take i))) ∧ Hid (Q.Ap v10 v11) ∧ Hid (Below wo.heap.size wo w'))
          case atStart => exact ⟨0, rfl, Lib.hid ⟨by omega, by omega⟩, Lib.hid (Kd.R_nil _ _ _ _ _), Lib.hid (Kd.R_nil _ _ _ _ _), Lib.hid (fun k h => by cases h), Lib.hid (Below.refl _ _)⟩
          case round =>
            obtain ⟨i, rfl, HJ, HRi, HRo, HA, HBo⟩ := hrel
            obtain ⟨Ai, ci, hvi, hci, hCi⟩ := Kd.R_reads HRi.out
            obtain ⟨Ao, co, hvo, hco, hCo⟩ := Kd.R_reads HRo.out
            obtain ⟨ni, hni⟩ : ∃ n, (nat ((pdN key 54).take i)).length = n := ⟨_, rfl⟩
            obtain ⟨no, hno⟩ : ∃ n, (nat ((pdN key 92).take i)).length = n := ⟨_, rfl⟩
            have hnii : ni = i := by rw [← hni, nat_length, List.length_take, pdN_len]; have := HJ.out; omega
            have hnoo : no = i := by rw [← hno, nat_length, List.length_take, pdN_len]; have := HJ.out; omega
            rw [hni] at hvi hCi
            rw [hno] at hvo hCo
            subst hvi
            subst hvo
            cases gk with
            | zero => have := HJ.out; omega
            | succ k =>
              by_cases hlt : i < 64
              · have HJ' := Lib.hid (show i < 64 ∧ 64 < (k + 1) + i from ⟨hlt, HJ.out.2⟩)
                have p0 := HCf.out i hlt wr HBo.out
                have hx := getD_lt (show i < (bsN key).length by rw [HBn.out]; exact hlt) HBf.out
                have t1 := HTk.out 54 i
                have t2 := HTk.out 92 i
                obtain ⟨x, hxx⟩ : ∃ x, (bsN key).getD i 0 = x := ⟨_, rfl⟩
                rw [hxx] at p0 hx
                obtain ⟨y1, hy1⟩ : ∃ y, x ^^^ 54 = y := ⟨_, rfl⟩
                obtain ⟨y2, hy2⟩ : ∃ y, x ^^^ 92 = y := ⟨_, rfl⟩
                have e1 : bits .xor .u8 (x : Int) 54 = (y1 : Int) := by rw [← hy1]; exact xor_u8 x 54 hx (by decide)
                have e2 : bits .xor .u8 (x : Int) 92 = (y2 : Int) := by rw [← hy2]; exact xor_u8 x 92 hx (by decide)
                have T1 := Lib.hid (t1 x y1 hlt hxx hy1)
                have T2 := Lib.hid (t2 x y2 hlt hxx hy2)
                have s0 : (i : Int) < 64 := by omega
                have s1 : (0 : Int) ≤ (i : Int) := by omega
                have hgl : gf < wo.heap.size := by have := (World.block_lt_of_cell? wo ⟨gf, i, none⟩ (HCf.out i hlt wo (Below.refl _ _))); exact this
                have q0 : ∀ x' : Q.GW wr.drew wo.heap.size none, x'.w.cell? ⟨gf, i, none⟩ = some (.int .u8 (x : Int)) := fun x' => ((x'.belowB (Nat.le_refl _) (fun _ h => by cases h)).cell (p := ⟨gf, i, none⟩) hgl).trans p0
                have HL1 := Lib.hid (show (nat ((pdN key 54).take i)).length = i from hni.trans hnii)
                have HL2 := Lib.hid (show (nat ((pdN key 92).take i)).length = i from hno.trans hnoo)
                clear hlt HJ p0 hx t1 t2 hxx hy1 hy2 hgl hnii hnoo hni hno hci hCi hco hCo
                generalize nat ((pdN key 54).take i) = X1 at *
                generalize nat ((pdN key 92).take i) = X2 at *
                go_wp2_with fail
                refine Q.wp_region_trB wo.heap.size none (.two [0, 1, 2, 3, 4, 5, 8, 9, 10, 11, 12, 13] 6 (.two [] 7 (.ev [] 14 (.ev [] 15 (.done [16, 17]))) 14 (.ev [] 7 (.ev [] 15 (.done [16, 17])))) 14 (.ev [] 6 (.ev [] 7 (.ev [] 15 (.done [16, 17]))))) (by kernel_rfl) (by kernel_rfl) (by kernel_rfl) (by kernel_rfl) ?_
                refine Q.two_pre ?_
                dsimp only [Q.picks, Q.pick]
                repeat (go_big_quiet_step (fail))
                refine wpQuiet_nil ?_
                clear q0 e1 e2
                refine Q.app2e 39 40 47 48 22 5 22 5 .u8 .u8 1 1 (.tmp 33) (.tmp 38) (.tmp 41) (.tmp 46) (.slice Ai ni ci) (.slice Ao no co) X1 X2 (y1 : Int) (y2 : Int) ⟨rfl, rfl, rfl⟩ ⟨rfl, rfl, rfl⟩ ⟨rfl, rfl, rfl⟩ ⟨rfl, rfl, rfl⟩ Try.underlying22 info_u8 (by decide) Try.underlying22 info_u8 (by decide) HA.out (by rfl) (⟨Nat.le_of_ble_eq_true rfl, Nat.le_of_ble_eq_true rfl, Nat.le_of_ble_eq_true rfl, Nat.le_of_ble_eq_true rfl⟩) (by rfl) rfl rfl rfl rfl (Kd.R_below HRi.out (stay0 _)) (Kd.R_below HRo.out (stay0 _)) HBo.out.size (by rw [HL1.out]; have := HJ'.out; omega) (by rw [HL2.out]; have := HJ'.out; omega) ?_
                intro u1 u3 v5 v6 w5 hr5 hr6 hb5 ha5
                rw [← T1.out] at hr5
                rw [← T2.out] at hr6
                have HR5 := Lib.hid hr5
                have HR6 := Lib.hid hr6
                have HB5 := Lib.hid ((HBo.out.trans ((stay0 _).mono HBo.out.size)).trans hb5)
                have HA5 := Lib.hid ha5
                clear hr5 hr6 hb5 ha5
                dsimp only [Q.picks, Q.pick]
                go_simp
                repeat (go_big_quiet_step (fail))
                refine wpQuiet_nil ?_
                refine NoPanic.normal ?_
                go_wp2_with fail
                go_roundg k
                case measure => have := HJ'.out; omega
                case rel => exact ⟨i + 1, by go_num, Lib.hid (by have := HJ'.out; omega), HR5, HR6, HA5, HB5⟩
              · obtain rfl : i = 64 := by have := HJ.out; omega
                have HRi2 := Lib.hid (show (Kd.int .u8).R 5 wr w.heap.size (fun _ => True) (.slice Ai ni ci) (nat (pdN key 54)) from by have := Kd.R_lower HRi.out HB.out.size; rwa [List.take_of_length_le (by rw [pdN_len]; exact Nat.le_refl _)] at this)
                have HRo2 := Lib.hid (show (Kd.int .u8).R 5 wr w.heap.size (fun _ => True) (.slice Ao no co) (nat (pdN key 92)) from by have := Kd.R_lower HRo.out HB.out.size; rwa [List.take_of_length_le (by rw [pdN_len]; exact Nat.le_refl _)] at this)
                have HBw := Lib.hid (HB.out.trans (HBo.out.mono HB.out.size))
                have HP1 := Lib.hid (pdN_len key 54)
                have HP2 := Lib.hid (pdN_len key 92)
                have HP18 := Lib.hid (pdN_lt (b := 54) HK8.out (by decide))
                have HP28 := Lib.hid (pdN_lt (b := 92) HK8.out (by decide))
                have HMf := Lib.hid (mark_form key b)
                generalize pdN key 54 = P1 at *
                generalize pdN key 92 = P2 at *
                clear hlt HJ HRi HRo HB hci hCi hco hCo hni hno HTk
                have n64 : ni = 64 := hnii
                have o64 : no = 64 := hnoo
                subst n64
                subst o64
                clear hnii hnoo
                go_wp2_with (at_builtin; refine appna (w0 := w) .u8 w.heap.size (.tmp 49) (.tmp 50) 22 5 1 rfl rfl Try.underlying22 info_u8 (by decide) (.slice Ai 64 ci) (nat P1) (nat b) Ab b.length cb rfl rfl HRi2.out (Kd.C_below HBb.out HBw.out) HBw.out HBw.out.size (by rw [nat_length, HP1.out]; have := HBl.out; omega) ?_; intro v6 w6 ho6 hb6 hg6 hat6; (have HO6 := Lib.hid ho6); (have HB6 := Lib.hid hb6); (have HG6 := Lib.hid hg6); (have HAt6 := Lib.hid hat6); clear ho6 hb6 hg6 hat6)
                have ho6 := HO6.out
                rw [← nat_app] at ho6
                have HRo6 := Lib.hid (Q.R_apart HRo2.out HA.out.symm HG6.out)
                have hIl : (P1 ++ b).length = 64 + b.length := by rw [List.length_append, HP1.out]
                obtain ⟨A6, c6, hv6, hc6, hC6⟩ := Kd.R_reads ho6
                rw [nat_length] at hv6 hC6
                subst hv6
                have hI8 : ∀ x ∈ P1 ++ b, x < 256 := app_lt HP18.out HB8.out
                have hq := rwith_any (P1 ++ b) A6 Ak As c6 ck cs w6 (by rw [hIl]; have := HBl.out; omega) hC6 hI8 (Kd.C_below HK.out HB6.out) (Kd.C_below HS.out HB6.out)
                have HQ := Lib.hid hq
                have HIl := Lib.hid hIl
                obtain ⟨n6, hn6⟩ : ∃ n, (P1 ++ b).length = n := ⟨_, rfl⟩
                rw [hn6] at HQ ⊢
                clear ho6 hIl hc6 hC6 hI8 hq HO6 HG6 HAt6 HRi2 HRo2 HBw hn6 HA HBo
                refine HQ.out.mono ?_
                rintro e w7 ⟨v7, rfl, hr7, hb7⟩
                obtain ⟨A7, c7, hv7, hc7, hC7⟩ := Kd.R_reads hr7
                rw [nat_length, shaN_length] at hv7 hC7
                subst hv7
                have HC7 := Lib.hid hC7
                have HRo7 := Lib.hid (Kd.R_below HRo6.out hb7)
                have HB7 := Lib.hid (HB6.out.trans (hb7.mono HB6.out.size))
                clear hr7 hb7 hc7 hC7 HQ HRo6 HB6
                have HSl := Lib.hid (shaN_length (P1 ++ b))
                have HS8 := Lib.hid (shaN_lt (P1 ++ b))
                have HMf2 := Lib.hid HMf.out
                obtain ⟨IN, hIN⟩ : ∃ I, shaN (P1 ++ b) = I := ⟨_, rfl⟩
                rw [hIN] at HC7 HSl HS8 HMf2
                clear hIN HMf
                go_wp2_with (at_builtin; refine appna (w0 := w) .u8 w.heap.size (.tmp 52) (.tmp 56) 22 5 1 rfl rfl Try.underlying22 info_u8 (by decide) (.slice Ao 64 co) (nat P2) (nat IN) A7 32 c7 rfl rfl HRo7.out HC7.out HB7.out HB7.out.size (by rw [nat_length, HP2.out]; decide) ?_; intro v8 w8 ho8 hb8 _ _; (have HO8 := Lib.hid ho8); (have HB8' := Lib.hid hb8); clear ho8 hb8)
                have ho8 := HO8.out
                rw [← nat_app] at ho8
                obtain ⟨A8, c8, hv8, hc8, hC8⟩ := Kd.R_reads ho8
                have hOl : (P2 ++ IN).length = 96 := by rw [List.length_append, HP2.out, HSl.out]
                rw [nat_length] at hv8 hC8
                have hq := rwith_any (P2 ++ IN) A8 Ak As c8 ck cs w8 (by rw [hOl]; decide) hC8 (app_lt HP28.out HS8.out) (Kd.C_below HK.out HB8'.out) (Kd.C_below HS.out HB8'.out)
                rw [← HMf2.out] at hq
                rw [hOl] at hq hv8
                subst hv8
                have HQ := Lib.hid hq
                clear ho8 hc8 hC8 hOl hq HO8 HRo7 HC7
                go_wp2_with fail
                refine HQ.out.mono ?_
                rintro e w9 ⟨v9, rfl, hr9, hb9⟩
                have HR9 := Lib.hid (Kd.R_lower hr9 HB8'.out.size)
                have HB9 := Lib.hid (HB8'.out.trans (hb9.mono HB8'.out.size))
                clear hr9 hb9 HQ
                go_wp2_with fail
                go_ret
                exact ⟨_, rfl, HR9.out, HB9.out⟩
  · have t1 : ¬ (64 : Int) < (key.length : Int) := by omega
    have t2 : decide ((64 : Int) < (key.length : Int)) = false := decide_eq_false t1
    have HKk := Lib.hid (show kkN key = key from by unfold kkN; rw [if_neg hgt])
    have HKn0 := Lib.hid (show key.length ≤ 64 from by omega)
    clear hgt
    go_enter Try.func52, Try.ntmps52
    go_wp2_with (at_builtin; refine appn (w0 := w) .u8 w.heap.size (.tmp 13) (.tmp 14) 22 5 1 rfl rfl Try.underlying22 info_u8 (by decide) (.slice none 0 0) [] (nat key) Akey _ ckey rfl rfl (Kd.R_nil _ _ _ _ _) HC.out (Below.refl _ _) (Nat.le_refl _) (by have := HKl.out; simp; omega) ?_; intro v1 w2 ho2 hb2 _; (have HO2 := Lib.hid (show (Kd.int .u8).R 5 w2 w.heap.size (fun _ => True) v1 (nat key) from by simpa using ho2)); (have HB2 := Lib.hid hb2); (obtain ⟨A1, c1, hv1, hc1, hC1⟩ := Kd.R_reads HO2.out); (rw [nat_length] at hv1 hC1); subst hv1; (have HC1 := Lib.hid hC1); clear ho2 hb2 hc1 hC1)
    have HR9 := Lib.hid HO2.out
    have HBx := Lib.hid HB2.out
    obtain ⟨A9, hA9⟩ : ∃ x, x = A1 := ⟨_, rfl⟩
    obtain ⟨c9, hc9⟩ : ∃ x, x = c1 := ⟨_, rfl⟩
    obtain ⟨n9, hn9⟩ : ∃ x, key.length = x := ⟨_, rfl⟩
    rw [← hA9, ← hc9, hn9] at HR9 ⊢
    have HKn := Lib.hid (show key.length = n9 ∧ n9 ≤ 64 from ⟨hn9, by have := HKn0.out; omega⟩)
    clear HO2 HB2 HC1 hA9 hc9 hn9
    go_loopg [9] 65 (fun g v9 w' => ∃ (n : Nat) (A : Option Addr) (c : Nat), v9 = .slice A n c ∧ Hid (key.length ≤ n ∧ n ≤ 64 ∧ 64 < g + n) ∧ Hid ((Kd.int .u8).R 5 w' w.heap.size (fun _ => True) (.slice A n c) (nat (key ++ List.replicate (n - key.length) 0))) ∧ Hid (Below w.heap.size w w'))
    case atStart => exact ⟨n9, A9, c9, rfl, Lib.hid (by have := HKn.out; omega), Lib.hid (by rw [show n9 - key.length = 0 from by have := HKn.out; omega, List.replicate_zero, List.append_nil]; exact HR9.out), HBx⟩
    case round =>
      obtain ⟨n, A, c, rfl, HJ, HR, HB⟩ := hrel
      clear HR9 HBx
      cases gk with
      | zero => have := HJ.out; omega
      | succ k =>
        by_cases hlt : n < 64
        · have HJ' := Lib.hid (show key.length ≤ n ∧ n < 64 ∧ 64 < (k + 1) + n from ⟨HJ.out.1, hlt, HJ.out.2.2⟩)
          have t0 : (n : Int) < 64 := by omega
          have HLn := Lib.hid (show (nat (key ++ List.replicate (n - key.length) 0)).length = n from by rw [nat_length, List.length_append, List.length_replicate]; have := HJ.out; omega)
          have HNx := Lib.hid (show nat (key ++ List.replicate (n + 1 - key.length) 0) = nat (key ++ List.replicate (n - key.length) 0) ++ [0] from by
            rw [show n + 1 - key.length = (n - key.length) + 1 from by have := HJ.out; omega, List.replicate_succ', ← List.append_assoc, nat_app]
            rfl)
          clear hlt HJ
          generalize nat (key ++ List.replicate (n - key.length) 0) = X at *
          go_wp2_with (at_builtin; refine app1 (w0 := w) .u8 w.heap.size (.tmp 26) (.tmp 27) 22 5 1 rfl rfl Try.underlying22 info_u8 (by decide) (.slice A n c) X 0 rfl rfl HR.out HB.out HB.out.size (by rw [HLn.out]; have := HJ'.out; omega) ?_; intro v4 w4 ho4 hb4 _; (have HO4 := Lib.hid ho4); (have HB4 := Lib.hid hb4); clear ho4 hb4)
          obtain ⟨A4, c4, hv4, hc4, hC4⟩ := Kd.R_reads HO4.out
          rw [List.length_append, HLn.out] at hv4
          have hv4' : v4 = .slice A4 (n + 1) c4 := hv4
          subst hv4'
          have HO5 := Lib.hid (show (Kd.int .u8).R 5 w4 w.heap.size (fun _ => True) (.slice A4 (n + 1) c4) (nat (key ++ List.replicate (n + 1 - key.length) 0)) from by rw [HNx.out]; exact HO4.out)
          clear HO4 hv4 hc4 hC4
          go_roundg k
          case measure => have := HJ'.out; omega
          case rel => exact ⟨n + 1, A4, c4, rfl, Lib.hid (by have := HJ'.out; omega), HO5, HB4⟩
        · obtain rfl : n = 64 := by have := HJ.out; omega
          have hrf := HR.out
          rw [← HKk.out, ← bsN_form] at hrf
          obtain ⟨gf, cf, hvf, hcf, hgf, hlf⟩ := R_openK hrf (by rw [bsN_len]; decide)
          rw [bsN_len] at hvf
          injection hvf with hv1 hv2 hv3
          subst hv1
          subst hv3
          have HCf := Lib.hid (fun i (hi : i < 64) W (hW : Below wr.heap.size wr W) => pw_cell_below hW (R_atK hrf (j := i) (by rw [bsN_len]; exact hi)).1)
          have HBf := Lib.hid (bsN_lt HK8.out)
          have HTk := Lib.hid (fun (y i x z : Nat) (hi : i < 64) (hx : (bsN key).getD i 0 = x) (hz : x ^^^ y = z) => pd_take hi hx hz)
          have HBn := Lib.hid (bsN_len key)
          clear hlt HJ HR hrf hcf hgf hlf hv2
          go_wp2_with fail
          obtain ⟨wo, rfl⟩ : ∃ wo : World, wo = wr := ⟨_, rfl⟩
          go_loopg [10, 11, 12] 65 (fun g v10 v11 v12 w' => ∃ i : Nat, v12 = .int .i64 (i : Int) ∧ Hid (i ≤ 64 ∧ 64 < g + i) ∧ Hid ((Kd.int .u8).R 5 w' wo.heap.size (fun _ => True) v10 (nat ((pdN key 54).take i))) ∧ Hid ((Kd.int .u8).R 5 w' wo.heap.size (fun _ => True) v11 (nat ((pdN key 92).take i))) ∧ Hid (Q.Ap v10 v11) ∧ Hid (Below wo.heap.size wo w'))
          case atStart => exact ⟨0, rfl, Lib.hid ⟨by omega, by omega⟩, Lib.hid (Kd.R_nil _ _ _ _ _), Lib.hid (Kd.R_nil _ _ _ _ _), Lib.hid (fun k h => by cases h), Lib.hid (Below.refl _ _)⟩
          case round =>
            obtain ⟨i, rfl, HJ, HRi, HRo, HA, HBo⟩ := hrel
            obtain ⟨Ai, ci, hvi, hci, hCi⟩ := Kd.R_reads HRi.out
            obtain ⟨Ao, co, hvo, hco, hCo⟩ := Kd.R_reads HRo.out
            obtain ⟨ni, hni⟩ : ∃ n, (nat ((pdN key 54).take i)).length = n := ⟨_, rfl⟩
            obtain ⟨no, hno⟩ : ∃ n, (nat ((pdN key 92).take i)).length = n := ⟨_, rfl⟩
            have hnii : ni = i := by rw [← hni, nat_length, List.length_take, pdN_len]; have := HJ.out; omega
            have hnoo : no = i := by rw [← hno, nat_length, List.length_take, pdN_len]; have := HJ.out; omega
            rw [hni] at hvi hCi
            rw [hno] at hvo hCo
            subst hvi
            subst hvo
            cases gk with
            | zero => have := HJ.out; omega
            | succ k =>
              by_cases hlt : i < 64
              · have HJ' := Lib.hid (show i < 64 ∧ 64 < (k + 1) + i from ⟨hlt, HJ.out.2⟩)
                have p0 := HCf.out i hlt wr HBo.out
                have hx := getD_lt (show i < (bsN key).length by rw [HBn.out]; exact hlt) HBf.out
                have t1 := HTk.out 54 i
                have t2 := HTk.out 92 i
                obtain ⟨x, hxx⟩ : ∃ x, (bsN key).getD i 0 = x := ⟨_, rfl⟩
                rw [hxx] at p0 hx
                obtain ⟨y1, hy1⟩ : ∃ y, x ^^^ 54 = y := ⟨_, rfl⟩
                obtain ⟨y2, hy2⟩ : ∃ y, x ^^^ 92 = y := ⟨_, rfl⟩
                have e1 : bits .xor .u8 (x : Int) 54 = (y1 : Int) := by rw [← hy1]; exact xor_u8 x 54 hx (by decide)
                have e2 : bits .xor .u8 (x : Int) 92 = (y2 : Int) := by rw [← hy2]; exact xor_u8 x 92 hx (by decide)
                have T1 := Lib.hid (t1 x y1 hlt hxx hy1)
                have T2 := Lib.hid (t2 x y2 hlt hxx hy2)
                have s0 : (i : Int) < 64 := by omega
                have s1 : (0 : Int) ≤ (i : Int) := by omega
                have hgl : gf < wo.heap.size := by have := (World.block_lt_of_cell? wo ⟨gf, i, none⟩ (HCf.out i hlt wo (Below.refl _ _))); exact this
                have q0 : ∀ x' : Q.GW wr.drew wo.heap.size none, x'.w.cell? ⟨gf, i, none⟩ = some (.int .u8 (x : Int)) := fun x' => ((x'.belowB (Nat.le_refl _) (fun _ h => by cases h)).cell (p := ⟨gf, i, none⟩) hgl).trans p0
                have HL1 := Lib.hid (show (nat ((pdN key 54).take i)).length = i from hni.trans hnii)
                have HL2 := Lib.hid (show (nat ((pdN key 92).take i)).length = i from hno.trans hnoo)
                clear hlt HJ p0 hx t1 t2 hxx hy1 hy2 hgl hnii hnoo hni hno hci hCi hco hCo
                generalize nat ((pdN key 54).take i) = X1 at *
                generalize nat ((pdN key 92).take i) = X2 at *
                go_wp2_with fail
                refine Q.wp_region_trB wo.heap.size none (.two [0, 1, 2, 3, 4, 5, 8, 9, 10, 11, 12, 13] 6 (.two [] 7 (.ev [] 14 (.ev [] 15 (.done [16, 17]))) 14 (.ev [] 7 (.ev [] 15 (.done [16, 17])))) 14 (.ev [] 6 (.ev [] 7 (.ev [] 15 (.done [16, 17]))))) (by kernel_rfl) (by kernel_rfl) (by kernel_rfl) (by kernel_rfl) ?_
                refine Q.two_pre ?_
                dsimp only [Q.picks, Q.pick]
                repeat (go_big_quiet_step (fail))
                refine wpQuiet_nil ?_
                clear q0 e1 e2
                refine Q.app2e 39 40 47 48 22 5 22 5 .u8 .u8 1 1 (.tmp 33) (.tmp 38) (.tmp 41) (.tmp 46) (.slice Ai ni ci) (.slice Ao no co) X1 X2 (y1 : Int) (y2 : Int) ⟨rfl, rfl, rfl⟩ ⟨rfl, rfl, rfl⟩ ⟨rfl, rfl, rfl⟩ ⟨rfl, rfl, rfl⟩ Try.underlying22 info_u8 (by decide) Try.underlying22 info_u8 (by decide) HA.out (by rfl) (⟨Nat.le_of_ble_eq_true rfl, Nat.le_of_ble_eq_true rfl, Nat.le_of_ble_eq_true rfl, Nat.le_of_ble_eq_true rfl⟩) (by rfl) rfl rfl rfl rfl (Kd.R_below HRi.out (stay0 _)) (Kd.R_below HRo.out (stay0 _)) HBo.out.size (by rw [HL1.out]; have := HJ'.out; omega) (by rw [HL2.out]; have := HJ'.out; omega) ?_
                intro u1 u3 v5 v6 w5 hr5 hr6 hb5 ha5
                rw [← T1.out] at hr5
                rw [← T2.out] at hr6
                have HR5 := Lib.hid hr5
                have HR6 := Lib.hid hr6
                have HB5 := Lib.hid ((HBo.out.trans ((stay0 _).mono HBo.out.size)).trans hb5)
                have HA5 := Lib.hid ha5
                clear hr5 hr6 hb5 ha5
                dsimp only [Q.picks, Q.pick]
                go_simp
                repeat (go_big_quiet_step (fail))
                refine wpQuiet_nil ?_
                refine NoPanic.normal ?_
                go_wp2_with fail
                go_roundg k
                case measure => have := HJ'.out; omega
                case rel => exact ⟨i + 1, by go_num, Lib.hid (by have := HJ'.out; omega), HR5, HR6, HA5, HB5⟩
              · obtain rfl : i = 64 := by have := HJ.out; omega
                have HRi2 := Lib.hid (show (Kd.int .u8).R 5 wr w.heap.size (fun _ => True) (.slice Ai ni ci) (nat (pdN key 54)) from by have := Kd.R_lower HRi.out HB.out.size; rwa [List.take_of_length_le (by rw [pdN_len]; exact Nat.le_refl _)] at this)
                have HRo2 := Lib.hid (show (Kd.int .u8).R 5 wr w.heap.size (fun _ => True) (.slice Ao no co) (nat (pdN key 92)) from by have := Kd.R_lower HRo.out HB.out.size; rwa [List.take_of_length_le (by rw [pdN_len]; exact Nat.le_refl _)] at this)
                have HBw := Lib.hid (HB.out.trans (HBo.out.mono HB.out.size))
                have HP1 := Lib.hid (pdN_len key 54)
                have HP2 := Lib.hid (pdN_len key 92)
                have HP18 := Lib.hid (pdN_lt (b := 54) HK8.out (by decide))
                have HP28 := Lib.hid (pdN_lt (b := 92) HK8.out (by decide))
                have HMf := Lib.hid (mark_form key b)
                generalize pdN key 54 = P1 at *
                generalize pdN key 92 = P2 at *
                clear hlt HJ HRi HRo HB hci hCi hco hCo hni hno HTk
                have n64 : ni = 64 := hnii
                have o64 : no = 64 := hnoo
                subst n64
                subst o64
                clear hnii hnoo
                go_wp2_with (at_builtin; refine appna (w0 := w) .u8 w.heap.size (.tmp 49) (.tmp 50) 22 5 1 rfl rfl Try.underlying22 info_u8 (by decide) (.slice Ai 64 ci) (nat P1) (nat b) Ab b.length cb rfl rfl HRi2.out (Kd.C_below HBb.out HBw.out) HBw.out HBw.out.size (by rw [nat_length, HP1.out]; have := HBl.out; omega) ?_; intro v6 w6 ho6 hb6 hg6 hat6; (have HO6 := Lib.hid ho6); (have HB6 := Lib.hid hb6); (have HG6 := Lib.hid hg6); (have HAt6 := Lib.hid hat6); clear ho6 hb6 hg6 hat6)
                have ho6 := HO6.out
                rw [← nat_app] at ho6
                have HRo6 := Lib.hid (Q.R_apart HRo2.out HA.out.symm HG6.out)
                have hIl : (P1 ++ b).length = 64 + b.length := by rw [List.length_append, HP1.out]
                obtain ⟨A6, c6, hv6, hc6, hC6⟩ := Kd.R_reads ho6
                rw [nat_length] at hv6 hC6
                subst hv6
                have hI8 : ∀ x ∈ P1 ++ b, x < 256 := app_lt HP18.out HB8.out
                have hq := rwith_any (P1 ++ b) A6 Ak As c6 ck cs w6 (by rw [hIl]; have := HBl.out; omega) hC6 hI8 (Kd.C_below HK.out HB6.out) (Kd.C_below HS.out HB6.out)
                have HQ := Lib.hid hq
                have HIl := Lib.hid hIl
                obtain ⟨n6, hn6⟩ : ∃ n, (P1 ++ b).length = n := ⟨_, rfl⟩
                rw [hn6] at HQ ⊢
                clear ho6 hIl hc6 hC6 hI8 hq HO6 HG6 HAt6 HRi2 HRo2 HBw hn6 HA HBo
                refine HQ.out.mono ?_
                rintro e w7 ⟨v7, rfl, hr7, hb7⟩
                obtain ⟨A7, c7, hv7, hc7, hC7⟩ := Kd.R_reads hr7
                rw [nat_length, shaN_length] at hv7 hC7
                subst hv7
                have HC7 := Lib.hid hC7
                have HRo7 := Lib.hid (Kd.R_below HRo6.out hb7)
                have HB7 := Lib.hid (HB6.out.trans (hb7.mono HB6.out.size))
                clear hr7 hb7 hc7 hC7 HQ HRo6 HB6
                have HSl := Lib.hid (shaN_length (P1 ++ b))
                have HS8 := Lib.hid (shaN_lt (P1 ++ b))
                have HMf2 := Lib.hid HMf.out
                obtain ⟨IN, hIN⟩ : ∃ I, shaN (P1 ++ b) = I := ⟨_, rfl⟩
                rw [hIN] at HC7 HSl HS8 HMf2
                clear hIN HMf
                go_wp2_with (at_builtin; refine appna (w0 := w) .u8 w.heap.size (.tmp 52) (.tmp 56) 22 5 1 rfl rfl Try.underlying22 info_u8 (by decide) (.slice Ao 64 co) (nat P2) (nat IN) A7 32 c7 rfl rfl HRo7.out HC7.out HB7.out HB7.out.size (by rw [nat_length, HP2.out]; decide) ?_; intro v8 w8 ho8 hb8 _ _; (have HO8 := Lib.hid ho8); (have HB8' := Lib.hid hb8); clear ho8 hb8)
                have ho8 := HO8.out
                rw [← nat_app] at ho8
                obtain ⟨A8, c8, hv8, hc8, hC8⟩ := Kd.R_reads ho8
                have hOl : (P2 ++ IN).length = 96 := by rw [List.length_append, HP2.out, HSl.out]
                rw [nat_length] at hv8 hC8
                have hq := rwith_any (P2 ++ IN) A8 Ak As c8 ck cs w8 (by rw [hOl]; decide) hC8 (app_lt HP28.out HS8.out) (Kd.C_below HK.out HB8'.out) (Kd.C_below HS.out HB8'.out)
                rw [← HMf2.out] at hq
                rw [hOl] at hq hv8
                subst hv8
                have HQ := Lib.hid hq
                clear ho8 hc8 hC8 hOl hq HO8 HRo7 HC7
                go_wp2_with fail
                refine HQ.out.mono ?_
                rintro e w9 ⟨v9, rfl, hr9, hb9⟩
                have HR9 := Lib.hid (Kd.R_lower hr9 HB8'.out.size)
                have HB9 := Lib.hid (HB8'.out.trans (hb9.mono HB8'.out.size))
                clear hr9 hb9 HQ
                go_wp2_with fail
                go_ret
                exact ⟨_, rfl, HR9.out, HB9.out⟩
end Go.Proofs.Ytagfplcafeblbaa.Mc
