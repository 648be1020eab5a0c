/-
  Parts of one proof, joined: mac: the document's With. | seal: the document's Seal. | seal: the document's Open.
-/
import Derived.Test.YtblnclooobggnaaZB0
import Derived.Test.YtblnclooobggnaaZB1
import Derived.Test.YtblnclooobggnaaZB2
import Derived.Test.YtblnclooobggnaaZB3
import Derived.Test.YtblnclooobggnaaZB4
import Derived.Test.YtblnclooobggnaaZB5
import Derived.Test.YtblnclooobggnaaZD0
import Derived.Test.YtblnclooobggnaaZD1

namespace Go.Proofs.Ytblnclooobggnaa.Mc
open Go.RowKit Go.Proofs.Ytblnclooobggnaa.L Go.Proofs.Ytblnclooobggnaa.N Go.Proofs.Ytblnclooobggnaa.H Go.Proofs.YtblnclooobggnaaW.PrintWords

section
variable {P : Program} {ops : Array Oper} {rest : List Oper} {o : Oper} {a : Act} {Q : Exit → Act → World → Prop}
/-- append(s, ys...), and where it lies -/
theorem appna {w0 W : World} (k : IntKind) (B : Nat) (s x : Operand) (t e : TypeId) (bytes : Nat) (hgd : o.guard = none)
    (ho : o.op = .call { callee := .builtin .append, args := #[s, x], argTypes := #[t, t] }) (ht : P.underlying t = some (.slice e))
    (hinfo : (P.info? e).map (fun i => (i.zero, i.size, i.bytes)) = some (some (.int k 0), 1, bytes)) (hb0 : 0 < bytes)
    (v : Value) (xs ys : List Int) (A : Option Addr) (m c : Nat) (hs : a.eval s = v) (hx : a.eval x = .slice A m c)
    (HO : (Kd.int k).R e W B (fun _ => True) v xs) (HR : (Kd.int k).C W A m ys) (HB : Below B w0 W) (hB : B ≤ W.heap.size) (hl : (xs.length + m) * bytes ≤ 140737488355328)
    (h : ∀ v1 w1, (Kd.int k).R e w1 B (fun _ => True) v1 (xs ++ ys) → Below B w0 w1 → W.grownBy w1 v.ownBlock → (v1.ownBlock = v.ownBlock ∨ ∃ b, v1.ownBlock = some b ∧ W.heap.size ≤ b) → wpList P ops Q rest (a.put o.dst v1) w1) :
    wpList P ops Q (o :: rest) a W :=
  Kd.R_append_row (Value.int k) 0 B hgd s x t e (.int k 0) bytes ho ht hinfo rfl hb0 v xs ys A m c (fun _ => True) hs hx (fun _ _ => trivial) HO HR HB hB hl h
end
theorem bsN_form (key : List Nat) : bsN key = kkN key ++ List.replicate (64 - (kkN key).length) 0 := by unfold bsN; rfl
theorem pd_take {key : List Nat} {y i x z : Nat} (hi : i < 64) (hx : (bsN key).getD i 0 = x) (hz : x ^^^ y = z) : nat ((pdN key y).take (i + 1)) = nat ((pdN key y).take i) ++ [(z : Int)] := by
  rw [← nat_snoc (by rw [pdN_len]; exact hi), pdN_get key y hi, hx, hz]
theorem mark_form (key b : List Nat) : markN key b = shaN (pdN key 92 ++ shaN (pdN key 54 ++ b)) := by unfold markN; rfl
set_option maxRecDepth 100000 in
set_option maxHeartbeats 12800000 in
theorem rmac_any (key b : List Nat) (Ak As Akey Ab : Option Addr) (ck cs ckey cb : Nat) (w : World) (hK : (Kd.int .u32).C w Ak 64 (nat kN)) (hS : (Kd.int .u32).C w As 8 (nat begN)) (hC : (Kd.int .u8).C w Akey key.length (nat key)) (hk8 : ∀ x ∈ key, x < 256) (hkl : key.length ≤ 100000) (hB : (Kd.int .u8).C w Ab b.length (nat b)) (hb8 : ∀ x ∈ b, x < 256) (hbl : b.length ≤ 100000) :
    Calls Try.prog 54 #[.slice Ak 64 ck, .slice As 8 cs, .slice Akey key.length ckey, .slice Ab b.length cb] w fun e w' => ∃ v, e = .returned v ∧ (Kd.int .u8).R 5 w' w.heap.size (fun _ => True) v (nat (markN key b)) ∧ Below w.heap.size w w' := by
  have HK := Lib.hid hK
  have HS := Lib.hid hS
  have HC := Lib.hid hC
  have HK8 := Lib.hid hk8
  have HKl := Lib.hid hkl
  have HBb := Lib.hid hB
  have HB8 := Lib.hid hb8
  have HBl := Lib.hid hbl
  have z1 : (key.length : Int) ≤ 100000 := by omega
  have z2 : (b.length : Int) ≤ 100000 := by omega
  clear hK hS hC hk8 hkl hB hb8 hbl
  by_cases hgt : 64 < key.length
  · have t1 : (64 : Int) < (key.length : Int) := by omega
    have t2 : decide ((64 : Int) < (key.length : Int)) = true := decide_eq_true t1
    have HKk := Lib.hid (show kkN key = shaN key from by unfold kkN; rw [if_pos hgt])
    obtain ⟨KK, hKK⟩ : ∃ K, shaN key = K := ⟨_, rfl⟩
    have HKn0 := Lib.hid (show KK.length = 32 from by rw [← hKK]; exact shaN_length key)
    have HKq := Lib.hid hKK
    rw [hKK] at HKk
    clear hgt hKK
    go_enter Try.func54, Try.ntmps54
    go_wp2_with (at_builtin; refine appn (w0 := w) .u8 w.heap.size (.tmp 13) (.tmp 14) 41 5 1 rfl rfl Try.underlying41 info_u8 (by decide) (.slice none 0 0) [] (nat key) Akey _ ckey rfl rfl (Kd.R_nil _ _ _ _ _) HC.out (Below.refl _ _) (Nat.le_refl _) (by have := HKl.out; simp; omega) ?_; intro v1 w2 ho2 hb2 _; (have HO2 := Lib.hid (show (Kd.int .u8).R 5 w2 w.heap.size (fun _ => True) v1 (nat key) from by simpa using ho2)); (have HB2 := Lib.hid hb2); (obtain ⟨A1, c1, hv1, hc1, hC1⟩ := Kd.R_reads HO2.out); (rw [nat_length] at hv1 hC1); subst hv1; (have HC1 := Lib.hid hC1); clear ho2 hb2 hc1 hC1)
    have hq := rwith_any key A1 Ak As c1 ck cs w2 (by have := HKl.out; omega) HC1.out HK8.out (Kd.C_below HK.out HB2.out) (Kd.C_below HS.out HB2.out)
    rw [HKq.out] at hq
    have HQ := Lib.hid hq
    clear hq HO2 HC1
    refine HQ.out.mono ?_
    rintro e w3 ⟨v3, rfl, hr3, hb3⟩
    obtain ⟨A9, c9, hv9, hc9, hC9⟩ := Kd.R_reads hr3
    rw [nat_length, HKn0.out] at hv9
    subst hv9
    have HR9 := Lib.hid (Kd.R_lower hr3 HB2.out.size)
    have HBx := Lib.hid (HB2.out.trans (hb3.mono HB2.out.size))
    obtain ⟨n9, hn9⟩ : ∃ n, 32 = n := ⟨_, rfl⟩
    have HKn := Lib.hid (show KK.length = n9 ∧ n9 ≤ 64 from ⟨by rw [HKn0.out, hn9], by omega⟩)
    rw [hn9] at HR9 ⊢
    clear hr3 hb3 hc9 hC9 HQ HB2 hn9
    go_wp2_with fail
    go_loopg [9] 65 (fun g v9 w' => ∃ (n : Nat) (A : Option Addr) (c : Nat), v9 = .slice A n c ∧ Hid (KK.length ≤ n ∧ n ≤ 64 ∧ 64 < g + n) ∧ Hid ((Kd.int .u8).R 5 w' w.heap.size (fun _ => True) (.slice A n c) (nat (KK ++ List.replicate (n - KK.length) 0))) ∧ Hid (Below w.heap.size w w'))
    case atStart => exact ⟨n9, A9, c9, rfl, Lib.hid (by have := HKn.out; omega), Lib.hid (by rw [show n9 - KK.length = 0 from by have := HKn.out; omega, List.replicate_zero, List.append_nil]; exact HR9.out), HBx⟩
    case round =>
      obtain ⟨n, A, c, rfl, HJ, HR, HB⟩ := hrel
      clear HR9 HBx
      cases gk with
      | zero => have := HJ.out; omega
      | succ k =>
        by_cases hlt : n < 64
        · have HJ' := Lib.hid (show KK.length ≤ n ∧ n < 64 ∧ 64 < (k + 1) + n from ⟨HJ.out.1, hlt, HJ.out.2.2⟩)
          have t0 : (n : Int) < 64 := by omega
          have HLn := Lib.hid (show (nat (KK ++ List.replicate (n - KK.length) 0)).length = n from by rw [nat_length, List.length_append, List.length_replicate]; have := HJ.out; omega)
          have HNx := Lib.hid (show nat (KK ++ List.replicate (n + 1 - KK.length) 0) = nat (KK ++ List.replicate (n - KK.length) 0) ++ [0] from by
            rw [show n + 1 - KK.length = (n - KK.length) + 1 from by have := HJ.out; omega, List.replicate_succ', ← List.append_assoc, nat_app]
            rfl)
          clear hlt HJ
          generalize nat (KK ++ List.replicate (n - KK.length) 0) = X at *
          go_wp2_with (at_builtin; refine app1 (w0 := w) .u8 w.heap.size (.tmp 26) (.tmp 27) 41 5 1 rfl rfl Try.underlying41 info_u8 (by decide) (.slice A n c) X 0 rfl rfl HR.out HB.out HB.out.size (by rw [HLn.out]; have := HJ'.out; omega) ?_; intro v4 w4 ho4 hb4 _; (have HO4 := Lib.hid ho4); (have HB4 := Lib.hid hb4); clear ho4 hb4)
          obtain ⟨A4, c4, hv4, hc4, hC4⟩ := Kd.R_reads HO4.out
          rw [List.length_append, HLn.out] at hv4
          have hv4' : v4 = .slice A4 (n + 1) c4 := hv4
          subst hv4'
          have HO5 := Lib.hid (show (Kd.int .u8).R 5 w4 w.heap.size (fun _ => True) (.slice A4 (n + 1) c4) (nat (KK ++ List.replicate (n + 1 - KK.length) 0)) from by rw [HNx.out]; exact HO4.out)
          clear HO4 hv4 hc4 hC4
          go_roundg k
          case measure => have := HJ'.out; omega
          case rel => exact ⟨n + 1, A4, c4, rfl, Lib.hid (by have := HJ'.out; omega), HO5, HB4⟩
        · obtain rfl : n = 64 := by have := HJ.out; omega
          have hrf := HR.out
          rw [← HKk.out, ← bsN_form] at hrf
          obtain ⟨gf, cf, hvf, hcf, hgf, hlf⟩ := R_openK hrf (by rw [bsN_len]; decide)
          rw [bsN_len] at hvf
          injection hvf with hv1 hv2 hv3
          subst hv1
          subst hv3
          have HCf := Lib.hid (fun i (hi : i < 64) W (hW : Below wr.heap.size wr W) => pw_cell_below hW (R_atK hrf (j := i) (by rw [bsN_len]; exact hi)).1)
          have HBf := Lib.hid (bsN_lt HK8.out)
          have HTk := Lib.hid (fun (y i x z : Nat) (hi : i < 64) (hx : (bsN key).getD i 0 = x) (hz : x ^^^ y = z) => pd_take hi hx hz)
          have HBn := Lib.hid (bsN_len key)
          clear hlt HJ HR hrf hcf hgf hlf hv2
          go_wp2_with fail
          obtain ⟨wo, rfl⟩ : ∃ wo : World, wo = wr := ⟨_, rfl⟩
          go_loopg [10, 11, 12] 65 (fun g v10 v11 v12 w' => ∃ i : Nat, v12 = .int .i64 (i : Int) ∧ Hid (i ≤ 64 ∧ 64 < g + i) ∧ Hid ((Kd.int .u8).R 5 w' wo.heap.size (fun _ => True) v10 (nat ((pdN key 54).take i))) ∧ Hid ((Kd.int .u8).R 5 w' wo.heap.size (fun _ => True) v11 (nat ((pdN key 92).take i))) ∧ Hid (Q.Ap v10 v11) ∧ Hid (Below wo.heap.size wo w'))
          case atStart => exact ⟨0, rfl, Lib.hid ⟨by omega, by omega⟩, Lib.hid (Kd.R_nil _ _ _ _ _), Lib.hid (Kd.R_nil _ _ _ _ _), Lib.hid (fun k h => by cases h), Lib.hid (Below.refl _ _)⟩
          case round =>
            obtain ⟨i, rfl, HJ, HRi, HRo, HA, HBo⟩ := hrel
            obtain ⟨Ai, ci, hvi, hci, hCi⟩ := Kd.R_reads HRi.out
            obtain ⟨Ao, co, hvo, hco, hCo⟩ := Kd.R_reads HRo.out
            obtain ⟨ni, hni⟩ : ∃ n, (nat ((pdN key 54).take i)).length = n := ⟨_, rfl⟩
            obtain ⟨no, hno⟩ : ∃ n, (nat ((pdN key 92).take i)).length = n := ⟨_, rfl⟩
            have hnii : ni = i := by rw [← hni, nat_length, List.length_take, pdN_len]; have := HJ.out; omega
            have hnoo : no = i := by rw [← hno, nat_length, List.length_take, pdN_len]; have := HJ.out; omega
            rw [hni] at hvi hCi
            rw [hno] at hvo hCo
            subst hvi
            subst hvo
            cases gk with
            | zero => have := HJ.out; omega
            | succ k =>
              by_cases hlt : i < 64
              · have HJ' := Lib.hid (show i < 64 ∧ 64 < (k + 1) + i from ⟨hlt, HJ.out.2⟩)
                have p0 := HCf.out i hlt wr HBo.out
                have hx := getD_lt (show i < (bsN key).length by rw [HBn.out]; exact hlt) HBf.out
                have t1 := HTk.out 54 i
                have t2 := HTk.out 92 i
                obtain ⟨x, hxx⟩ : ∃ x, (bsN key).getD i 0 = x := ⟨_, rfl⟩
                rw [hxx] at p0 hx
                obtain ⟨y1, hy1⟩ : ∃ y, x ^^^ 54 = y := ⟨_, rfl⟩
                obtain ⟨y2, hy2⟩ : ∃ y, x ^^^ 92 = y := ⟨_, rfl⟩
                have e1 : bits .xor .u8 (x : Int) 54 = (y1 : Int) := by rw [← hy1]; exact xor_u8 x 54 hx (by decide)
                have e2 : bits .xor .u8 (x : Int) 92 = (y2 : Int) := by rw [← hy2]; exact xor_u8 x 92 hx (by decide)
                have T1 := Lib.hid (t1 x y1 hlt hxx hy1)
                have T2 := Lib.hid (t2 x y2 hlt hxx hy2)
                have s0 : (i : Int) < 64 := by omega
                have s1 : (0 : Int) ≤ (i : Int) := by omega
                have hgl : gf < wo.heap.size := by have := (World.block_lt_of_cell? wo ⟨gf, i, none⟩ (HCf.out i hlt wo (Below.refl _ _))); exact this
                have q0 : ∀ x' : Q.GW wr.drew wo.heap.size none, x'.w.cell? ⟨gf, i, none⟩ = some (.int .u8 (x : Int)) := fun x' => ((x'.belowB (Nat.le_refl _) (fun _ h => by cases h)).cell (p := ⟨gf, i, none⟩) hgl).trans p0
                have HL1 := Lib.hid (show (nat ((pdN key 54).take i)).length = i from hni.trans hnii)
                have HL2 := Lib.hid (show (nat ((pdN key 92).take i)).length = i from hno.trans hnoo)
                clear hlt HJ p0 hx t1 t2 hxx hy1 hy2 hgl hnii hnoo hni hno hci hCi hco hCo
                generalize nat ((pdN key 54).take i) = X1 at *
                generalize nat ((pdN key 92).take i) = X2 at *
                go_wp2_with fail
                refine Q.wp_region_trB wo.heap.size none (.two [0, 1, 2, 3, 4, 5, 8, 9, 10, 11, 12, 13] 6 (.two [] 7 (.ev [] 14 (.ev [] 15 (.done [16, 17]))) 14 (.ev [] 7 (.ev [] 15 (.done [16, 17])))) 14 (.ev [] 6 (.ev [] 7 (.ev [] 15 (.done [16, 17]))))) (by kernel_rfl) (by kernel_rfl) (by kernel_rfl) (by kernel_rfl) ?_
                refine Q.two_pre ?_
                dsimp only [Q.picks, Q.pick]
                repeat (go_big_quiet_step (fail))
                refine wpQuiet_nil ?_
                clear q0 e1 e2
                refine Q.app2e 39 40 47 48 41 5 41 5 .u8 .u8 1 1 (.tmp 33) (.tmp 38) (.tmp 41) (.tmp 46) (.slice Ai ni ci) (.slice Ao no co) X1 X2 (y1 : Int) (y2 : Int) ⟨rfl, rfl, rfl⟩ ⟨rfl, rfl, rfl⟩ ⟨rfl, rfl, rfl⟩ ⟨rfl, rfl, rfl⟩ Try.underlying41 info_u8 (by decide) Try.underlying41 info_u8 (by decide) HA.out (by rfl) (⟨Nat.le_of_ble_eq_true rfl, Nat.le_of_ble_eq_true rfl, Nat.le_of_ble_eq_true rfl, Nat.le_of_ble_eq_true rfl⟩) (by rfl) rfl rfl rfl rfl (Kd.R_below HRi.out (stay0 _)) (Kd.R_below HRo.out (stay0 _)) HBo.out.size (by rw [HL1.out]; have := HJ'.out; omega) (by rw [HL2.out]; have := HJ'.out; omega) ?_
                intro u1 u3 v5 v6 w5 hr5 hr6 hb5 ha5
                rw [← T1.out] at hr5
                rw [← T2.out] at hr6
                have HR5 := Lib.hid hr5
                have HR6 := Lib.hid hr6
                have HB5 := Lib.hid ((HBo.out.trans ((stay0 _).mono HBo.out.size)).trans hb5)
                have HA5 := Lib.hid ha5
                clear hr5 hr6 hb5 ha5
                dsimp only [Q.picks, Q.pick]
                go_simp
                repeat (go_big_quiet_step (fail))
                refine wpQuiet_nil ?_
                refine NoPanic.normal ?_
                go_wp2_with fail
                go_roundg k
                case measure => have := HJ'.out; omega
                case rel => exact ⟨i + 1, by go_num, Lib.hid (by have := HJ'.out; omega), HR5, HR6, HA5, HB5⟩
              · obtain rfl : i = 64 := by have := HJ.out; omega
                have HRi2 := Lib.hid (show (Kd.int .u8).R 5 wr w.heap.size (fun _ => True) (.slice Ai ni ci) (nat (pdN key 54)) from by have := Kd.R_lower HRi.out HB.out.size; rwa [List.take_of_length_le (by rw [pdN_len]; exact Nat.le_refl _)] at this)
                have HRo2 := Lib.hid (show (Kd.int .u8).R 5 wr w.heap.size (fun _ => True) (.slice Ao no co) (nat (pdN key 92)) from by have := Kd.R_lower HRo.out HB.out.size; rwa [List.take_of_length_le (by rw [pdN_len]; exact Nat.le_refl _)] at this)
                have HBw := Lib.hid (HB.out.trans (HBo.out.mono HB.out.size))
                have HP1 := Lib.hid (pdN_len key 54)
                have HP2 := Lib.hid (pdN_len key 92)
                have HP18 := Lib.hid (pdN_lt (b := 54) HK8.out (by decide))
                have HP28 := Lib.hid (pdN_lt (b := 92) HK8.out (by decide))
                have HMf := Lib.hid (mark_form key b)
                generalize pdN key 54 = P1 at *
                generalize pdN key 92 = P2 at *
                clear hlt HJ HRi HRo HB hci hCi hco hCo hni hno HTk
                have n64 : ni = 64 := hnii
                have o64 : no = 64 := hnoo
                subst n64
                subst o64
                clear hnii hnoo
                go_wp2_with (at_builtin; refine appna (w0 := w) .u8 w.heap.size (.tmp 49) (.tmp 50) 41 5 1 rfl rfl Try.underlying41 info_u8 (by decide) (.slice Ai 64 ci) (nat P1) (nat b) Ab b.length cb rfl rfl HRi2.out (Kd.C_below HBb.out HBw.out) HBw.out HBw.out.size (by rw [nat_length, HP1.out]; have := HBl.out; omega) ?_; intro v6 w6 ho6 hb6 hg6 hat6; (have HO6 := Lib.hid ho6); (have HB6 := Lib.hid hb6); (have HG6 := Lib.hid hg6); (have HAt6 := Lib.hid hat6); clear ho6 hb6 hg6 hat6)
                have ho6 := HO6.out
                rw [← nat_app] at ho6
                have HRo6 := Lib.hid (Q.R_apart HRo2.out HA.out.symm HG6.out)
                have hIl : (P1 ++ b).length = 64 + b.length := by rw [List.length_append, HP1.out]
                obtain ⟨A6, c6, hv6, hc6, hC6⟩ := Kd.R_reads ho6
                rw [nat_length] at hv6 hC6
                subst hv6
                have hI8 : ∀ x ∈ P1 ++ b, x < 256 := app_lt HP18.out HB8.out
                have hq := rwith_any (P1 ++ b) A6 Ak As c6 ck cs w6 (by rw [hIl]; have := HBl.out; omega) hC6 hI8 (Kd.C_below HK.out HB6.out) (Kd.C_below HS.out HB6.out)
                have HQ := Lib.hid hq
                have HIl := Lib.hid hIl
                obtain ⟨n6, hn6⟩ : ∃ n, (P1 ++ b).length = n := ⟨_, rfl⟩
                rw [hn6] at HQ ⊢
                clear ho6 hIl hc6 hC6 hI8 hq HO6 HG6 HAt6 HRi2 HRo2 HBw hn6 HA HBo
                refine HQ.out.mono ?_
                rintro e w7 ⟨v7, rfl, hr7, hb7⟩
                obtain ⟨A7, c7, hv7, hc7, hC7⟩ := Kd.R_reads hr7
                rw [nat_length, shaN_length] at hv7 hC7
                subst hv7
                have HC7 := Lib.hid hC7
                have HRo7 := Lib.hid (Kd.R_below HRo6.out hb7)
                have HB7 := Lib.hid (HB6.out.trans (hb7.mono HB6.out.size))
                clear hr7 hb7 hc7 hC7 HQ HRo6 HB6
                have HSl := Lib.hid (shaN_length (P1 ++ b))
                have HS8 := Lib.hid (shaN_lt (P1 ++ b))
                have HMf2 := Lib.hid HMf.out
                obtain ⟨IN, hIN⟩ : ∃ I, shaN (P1 ++ b) = I := ⟨_, rfl⟩
                rw [hIN] at HC7 HSl HS8 HMf2
                clear hIN HMf
                go_wp2_with (at_builtin; refine appna (w0 := w) .u8 w.heap.size (.tmp 52) (.tmp 56) 41 5 1 rfl rfl Try.underlying41 info_u8 (by decide) (.slice Ao 64 co) (nat P2) (nat IN) A7 32 c7 rfl rfl HRo7.out HC7.out HB7.out HB7.out.size (by rw [nat_length, HP2.out]; decide) ?_; intro v8 w8 ho8 hb8 _ _; (have HO8 := Lib.hid ho8); (have HB8' := Lib.hid hb8); clear ho8 hb8)
                have ho8 := HO8.out
                rw [← nat_app] at ho8
                obtain ⟨A8, c8, hv8, hc8, hC8⟩ := Kd.R_reads ho8
                have hOl : (P2 ++ IN).length = 96 := by rw [List.length_append, HP2.out, HSl.out]
                rw [nat_length] at hv8 hC8
                have hq := rwith_any (P2 ++ IN) A8 Ak As c8 ck cs w8 (by rw [hOl]; decide) hC8 (app_lt HP28.out HS8.out) (Kd.C_below HK.out HB8'.out) (Kd.C_below HS.out HB8'.out)
                rw [← HMf2.out] at hq
                rw [hOl] at hq hv8
                subst hv8
                have HQ := Lib.hid hq
                clear ho8 hc8 hC8 hOl hq HO8 HRo7 HC7
                go_wp2_with fail
                refine HQ.out.mono ?_
                rintro e w9 ⟨v9, rfl, hr9, hb9⟩
                have HR9 := Lib.hid (Kd.R_lower hr9 HB8'.out.size)
                have HB9 := Lib.hid (HB8'.out.trans (hb9.mono HB8'.out.size))
                clear hr9 hb9 HQ
                go_wp2_with fail
                go_ret
                exact ⟨_, rfl, HR9.out, HB9.out⟩
  · have t1 : ¬ (64 : Int) < (key.length : Int) := by omega
    have t2 : decide ((64 : Int) < (key.length : Int)) = false := decide_eq_false t1
    have HKk := Lib.hid (show kkN key = key from by unfold kkN; rw [if_neg hgt])
    have HKn0 := Lib.hid (show key.length ≤ 64 from by omega)
    clear hgt
    go_enter Try.func54, Try.ntmps54
    go_wp2_with (at_builtin; refine appn (w0 := w) .u8 w.heap.size (.tmp 13) (.tmp 14) 41 5 1 rfl rfl Try.underlying41 info_u8 (by decide) (.slice none 0 0) [] (nat key) Akey _ ckey rfl rfl (Kd.R_nil _ _ _ _ _) HC.out (Below.refl _ _) (Nat.le_refl _) (by have := HKl.out; simp; omega) ?_; intro v1 w2 ho2 hb2 _; (have HO2 := Lib.hid (show (Kd.int .u8).R 5 w2 w.heap.size (fun _ => True) v1 (nat key) from by simpa using ho2)); (have HB2 := Lib.hid hb2); (obtain ⟨A1, c1, hv1, hc1, hC1⟩ := Kd.R_reads HO2.out); (rw [nat_length] at hv1 hC1); subst hv1; (have HC1 := Lib.hid hC1); clear ho2 hb2 hc1 hC1)
    have HR9 := Lib.hid HO2.out
    have HBx := Lib.hid HB2.out
    obtain ⟨A9, hA9⟩ : ∃ x, x = A1 := ⟨_, rfl⟩
    obtain ⟨c9, hc9⟩ : ∃ x, x = c1 := ⟨_, rfl⟩
    obtain ⟨n9, hn9⟩ : ∃ x, key.length = x := ⟨_, rfl⟩
    rw [← hA9, ← hc9, hn9] at HR9 ⊢
    have HKn := Lib.hid (show key.length = n9 ∧ n9 ≤ 64 from ⟨hn9, by have := HKn0.out; omega⟩)
    clear HO2 HB2 HC1 hA9 hc9 hn9
    go_loopg [9] 65 (fun g v9 w' => ∃ (n : Nat) (A : Option Addr) (c : Nat), v9 = .slice A n c ∧ Hid (key.length ≤ n ∧ n ≤ 64 ∧ 64 < g + n) ∧ Hid ((Kd.int .u8).R 5 w' w.heap.size (fun _ => True) (.slice A n c) (nat (key ++ List.replicate (n - key.length) 0))) ∧ Hid (Below w.heap.size w w'))
    case atStart => exact ⟨n9, A9, c9, rfl, Lib.hid (by have := HKn.out; omega), Lib.hid (by rw [show n9 - key.length = 0 from by have := HKn.out; omega, List.replicate_zero, List.append_nil]; exact HR9.out), HBx⟩
    case round =>
      obtain ⟨n, A, c, rfl, HJ, HR, HB⟩ := hrel
      clear HR9 HBx
      cases gk with
      | zero => have := HJ.out; omega
      | succ k =>
        by_cases hlt : n < 64
        · have HJ' := Lib.hid (show key.length ≤ n ∧ n < 64 ∧ 64 < (k + 1) + n from ⟨HJ.out.1, hlt, HJ.out.2.2⟩)
          have t0 : (n : Int) < 64 := by omega
          have HLn := Lib.hid (show (nat (key ++ List.replicate (n - key.length) 0)).length = n from by rw [nat_length, List.length_append, List.length_replicate]; have := HJ.out; omega)
          have HNx := Lib.hid (show nat (key ++ List.replicate (n + 1 - key.length) 0) = nat (key ++ List.replicate (n - key.length) 0) ++ [0] from by
            rw [show n + 1 - key.length = (n - key.length) + 1 from by have := HJ.out; omega, List.replicate_succ', ← List.append_assoc, nat_app]
            rfl)
          clear hlt HJ
          generalize nat (key ++ List.replicate (n - key.length) 0) = X at *
          go_wp2_with (at_builtin; refine app1 (w0 := w) .u8 w.heap.size (.tmp 26) (.tmp 27) 41 5 1 rfl rfl Try.underlying41 info_u8 (by decide) (.slice A n c) X 0 rfl rfl HR.out HB.out HB.out.size (by rw [HLn.out]; have := HJ'.out; omega) ?_; intro v4 w4 ho4 hb4 _; (have HO4 := Lib.hid ho4); (have HB4 := Lib.hid hb4); clear ho4 hb4)
          obtain ⟨A4, c4, hv4, hc4, hC4⟩ := Kd.R_reads HO4.out
          rw [List.length_append, HLn.out] at hv4
          have hv4' : v4 = .slice A4 (n + 1) c4 := hv4
          subst hv4'
          have HO5 := Lib.hid (show (Kd.int .u8).R 5 w4 w.heap.size (fun _ => True) (.slice A4 (n + 1) c4) (nat (key ++ List.replicate (n + 1 - key.length) 0)) from by rw [HNx.out]; exact HO4.out)
          clear HO4 hv4 hc4 hC4
          go_roundg k
          case measure => have := HJ'.out; omega
          case rel => exact ⟨n + 1, A4, c4, rfl, Lib.hid (by have := HJ'.out; omega), HO5, HB4⟩
        · obtain rfl : n = 64 := by have := HJ.out; omega
          have hrf := HR.out
          rw [← HKk.out, ← bsN_form] at hrf
          obtain ⟨gf, cf, hvf, hcf, hgf, hlf⟩ := R_openK hrf (by rw [bsN_len]; decide)
          rw [bsN_len] at hvf
          injection hvf with hv1 hv2 hv3
          subst hv1
          subst hv3
          have HCf := Lib.hid (fun i (hi : i < 64) W (hW : Below wr.heap.size wr W) => pw_cell_below hW (R_atK hrf (j := i) (by rw [bsN_len]; exact hi)).1)
          have HBf := Lib.hid (bsN_lt HK8.out)
          have HTk := Lib.hid (fun (y i x z : Nat) (hi : i < 64) (hx : (bsN key).getD i 0 = x) (hz : x ^^^ y = z) => pd_take hi hx hz)
          have HBn := Lib.hid (bsN_len key)
          clear hlt HJ HR hrf hcf hgf hlf hv2
          go_wp2_with fail
          obtain ⟨wo, rfl⟩ : ∃ wo : World, wo = wr := ⟨_, rfl⟩
          go_loopg [10, 11, 12] 65 (fun g v10 v11 v12 w' => ∃ i : Nat, v12 = .int .i64 (i : Int) ∧ Hid (i ≤ 64 ∧ 64 < g + i) ∧ Hid ((Kd.int .u8).R 5 w' wo.heap.size (fun _ => True) v10 (nat ((pdN key 54).take i))) ∧ Hid ((Kd.int .u8).R 5 w' wo.heap.size (fun _ => True) v11 (nat ((pdN key 92).take i))) ∧ Hid (Q.Ap v10 v11) ∧ Hid (Below wo.heap.size wo w'))
          case atStart => exact ⟨0, rfl, Lib.hid ⟨by omega, by omega⟩, Lib.hid (Kd.R_nil _ _ _ _ _), Lib.hid (Kd.R_nil _ _ _ _ _), Lib.hid (fun k h => by cases h), Lib.hid (Below.refl _ _)⟩
          case round =>
            obtain ⟨i, rfl, HJ, HRi, HRo, HA, HBo⟩ := hrel
            obtain ⟨Ai, ci, hvi, hci, hCi⟩ := Kd.R_reads HRi.out
            obtain ⟨Ao, co, hvo, hco, hCo⟩ := Kd.R_reads HRo.out
            obtain ⟨ni, hni⟩ : ∃ n, (nat ((pdN key 54).take i)).length = n := ⟨_, rfl⟩
            obtain ⟨no, hno⟩ : ∃ n, (nat ((pdN key 92).take i)).length = n := ⟨_, rfl⟩
            have hnii : ni = i := by rw [← hni, nat_length, List.length_take, pdN_len]; have := HJ.out; omega
            have hnoo : no = i := by rw [← hno, nat_length, List.length_take, pdN_len]; have := HJ.out; omega
            rw [hni] at hvi hCi
            rw [hno] at hvo hCo
            subst hvi
            subst hvo
            cases gk with
            | zero => have := HJ.out; omega
            | succ k =>
              by_cases hlt : i < 64
              · have HJ' := Lib.hid (show i < 64 ∧ 64 < (k + 1) + i from ⟨hlt, HJ.out.2⟩)
                have p0 := HCf.out i hlt wr HBo.out
                have hx := getD_lt (show i < (bsN key).length by rw [HBn.out]; exact hlt) HBf.out
                have t1 := HTk.out 54 i
                have t2 := HTk.out 92 i
                obtain ⟨x, hxx⟩ : ∃ x, (bsN key).getD i 0 = x := ⟨_, rfl⟩
                rw [hxx] at p0 hx
                obtain ⟨y1, hy1⟩ : ∃ y, x ^^^ 54 = y := ⟨_, rfl⟩
                obtain ⟨y2, hy2⟩ : ∃ y, x ^^^ 92 = y := ⟨_, rfl⟩
                have e1 : bits .xor .u8 (x : Int) 54 = (y1 : Int) := by rw [← hy1]; exact xor_u8 x 54 hx (by decide)
                have e2 : bits .xor .u8 (x : Int) 92 = (y2 : Int) := by rw [← hy2]; exact xor_u8 x 92 hx (by decide)
                have T1 := Lib.hid (t1 x y1 hlt hxx hy1)
                have T2 := Lib.hid (t2 x y2 hlt hxx hy2)
                have s0 : (i : Int) < 64 := by omega
                have s1 : (0 : Int) ≤ (i : Int) := by omega
                have hgl : gf < wo.heap.size := by have := (World.block_lt_of_cell? wo ⟨gf, i, none⟩ (HCf.out i hlt wo (Below.refl _ _))); exact this
                have q0 : ∀ x' : Q.GW wr.drew wo.heap.size none, x'.w.cell? ⟨gf, i, none⟩ = some (.int .u8 (x : Int)) := fun x' => ((x'.belowB (Nat.le_refl _) (fun _ h => by cases h)).cell (p := ⟨gf, i, none⟩) hgl).trans p0
                have HL1 := Lib.hid (show (nat ((pdN key 54).take i)).length = i from hni.trans hnii)
                have HL2 := Lib.hid (show (nat ((pdN key 92).take i)).length = i from hno.trans hnoo)
                clear hlt HJ p0 hx t1 t2 hxx hy1 hy2 hgl hnii hnoo hni hno hci hCi hco hCo
                generalize nat ((pdN key 54).take i) = X1 at *
                generalize nat ((pdN key 92).take i) = X2 at *
                go_wp2_with fail
                refine Q.wp_region_trB wo.heap.size none (.two [0, 1, 2, 3, 4, 5, 8, 9, 10, 11, 12, 13] 6 (.two [] 7 (.ev [] 14 (.ev [] 15 (.done [16, 17]))) 14 (.ev [] 7 (.ev [] 15 (.done [16, 17])))) 14 (.ev [] 6 (.ev [] 7 (.ev [] 15 (.done [16, 17]))))) (by kernel_rfl) (by kernel_rfl) (by kernel_rfl) (by kernel_rfl) ?_
                refine Q.two_pre ?_
                dsimp only [Q.picks, Q.pick]
                repeat (go_big_quiet_step (fail))
                refine wpQuiet_nil ?_
                clear q0 e1 e2
                refine Q.app2e 39 40 47 48 41 5 41 5 .u8 .u8 1 1 (.tmp 33) (.tmp 38) (.tmp 41) (.tmp 46) (.slice Ai ni ci) (.slice Ao no co) X1 X2 (y1 : Int) (y2 : Int) ⟨rfl, rfl, rfl⟩ ⟨rfl, rfl, rfl⟩ ⟨rfl, rfl, rfl⟩ ⟨rfl, rfl, rfl⟩ Try.underlying41 info_u8 (by decide) Try.underlying41 info_u8 (by decide) HA.out (by rfl) (⟨Nat.le_of_ble_eq_true rfl, Nat.le_of_ble_eq_true rfl, Nat.le_of_ble_eq_true rfl, Nat.le_of_ble_eq_true rfl⟩) (by rfl) rfl rfl rfl rfl (Kd.R_below HRi.out (stay0 _)) (Kd.R_below HRo.out (stay0 _)) HBo.out.size (by rw [HL1.out]; have := HJ'.out; omega) (by rw [HL2.out]; have := HJ'.out; omega) ?_
                intro u1 u3 v5 v6 w5 hr5 hr6 hb5 ha5
                rw [← T1.out] at hr5
                rw [← T2.out] at hr6
                have HR5 := Lib.hid hr5
                have HR6 := Lib.hid hr6
                have HB5 := Lib.hid ((HBo.out.trans ((stay0 _).mono HBo.out.size)).trans hb5)
                have HA5 := Lib.hid ha5
                clear hr5 hr6 hb5 ha5
                dsimp only [Q.picks, Q.pick]
                go_simp
                repeat (go_big_quiet_step (fail))
                refine wpQuiet_nil ?_
                refine NoPanic.normal ?_
                go_wp2_with fail
                go_roundg k
                case measure => have := HJ'.out; omega
                case rel => exact ⟨i + 1, by go_num, Lib.hid (by have := HJ'.out; omega), HR5, HR6, HA5, HB5⟩
              · obtain rfl : i = 64 := by have := HJ.out; omega
                have HRi2 := Lib.hid (show (Kd.int .u8).R 5 wr w.heap.size (fun _ => True) (.slice Ai ni ci) (nat (pdN key 54)) from by have := Kd.R_lower HRi.out HB.out.size; rwa [List.take_of_length_le (by rw [pdN_len]; exact Nat.le_refl _)] at this)
                have HRo2 := Lib.hid (show (Kd.int .u8).R 5 wr w.heap.size (fun _ => True) (.slice Ao no co) (nat (pdN key 92)) from by have := Kd.R_lower HRo.out HB.out.size; rwa [List.take_of_length_le (by rw [pdN_len]; exact Nat.le_refl _)] at this)
                have HBw := Lib.hid (HB.out.trans (HBo.out.mono HB.out.size))
                have HP1 := Lib.hid (pdN_len key 54)
                have HP2 := Lib.hid (pdN_len key 92)
                have HP18 := Lib.hid (pdN_lt (b := 54) HK8.out (by decide))
                have HP28 := Lib.hid (pdN_lt (b := 92) HK8.out (by decide))
                have HMf := Lib.hid (mark_form key b)
                generalize pdN key 54 = P1 at *
                generalize pdN key 92 = P2 at *
                clear hlt HJ HRi HRo HB hci hCi hco hCo hni hno HTk
                have n64 : ni = 64 := hnii
                have o64 : no = 64 := hnoo
                subst n64
                subst o64
                clear hnii hnoo
                go_wp2_with (at_builtin; refine appna (w0 := w) .u8 w.heap.size (.tmp 49) (.tmp 50) 41 5 1 rfl rfl Try.underlying41 info_u8 (by decide) (.slice Ai 64 ci) (nat P1) (nat b) Ab b.length cb rfl rfl HRi2.out (Kd.C_below HBb.out HBw.out) HBw.out HBw.out.size (by rw [nat_length, HP1.out]; have := HBl.out; omega) ?_; intro v6 w6 ho6 hb6 hg6 hat6; (have HO6 := Lib.hid ho6); (have HB6 := Lib.hid hb6); (have HG6 := Lib.hid hg6); (have HAt6 := Lib.hid hat6); clear ho6 hb6 hg6 hat6)
                have ho6 := HO6.out
                rw [← nat_app] at ho6
                have HRo6 := Lib.hid (Q.R_apart HRo2.out HA.out.symm HG6.out)
                have hIl : (P1 ++ b).length = 64 + b.length := by rw [List.length_append, HP1.out]
                obtain ⟨A6, c6, hv6, hc6, hC6⟩ := Kd.R_reads ho6
                rw [nat_length] at hv6 hC6
                subst hv6
                have hI8 : ∀ x ∈ P1 ++ b, x < 256 := app_lt HP18.out HB8.out
                have hq := rwith_any (P1 ++ b) A6 Ak As c6 ck cs w6 (by rw [hIl]; have := HBl.out; omega) hC6 hI8 (Kd.C_below HK.out HB6.out) (Kd.C_below HS.out HB6.out)
                have HQ := Lib.hid hq
                have HIl := Lib.hid hIl
                obtain ⟨n6, hn6⟩ : ∃ n, (P1 ++ b).length = n := ⟨_, rfl⟩
                rw [hn6] at HQ ⊢
                clear ho6 hIl hc6 hC6 hI8 hq HO6 HG6 HAt6 HRi2 HRo2 HBw hn6 HA HBo
                refine HQ.out.mono ?_
                rintro e w7 ⟨v7, rfl, hr7, hb7⟩
                obtain ⟨A7, c7, hv7, hc7, hC7⟩ := Kd.R_reads hr7
                rw [nat_length, shaN_length] at hv7 hC7
                subst hv7
                have HC7 := Lib.hid hC7
                have HRo7 := Lib.hid (Kd.R_below HRo6.out hb7)
                have HB7 := Lib.hid (HB6.out.trans (hb7.mono HB6.out.size))
                clear hr7 hb7 hc7 hC7 HQ HRo6 HB6
                have HSl := Lib.hid (shaN_length (P1 ++ b))
                have HS8 := Lib.hid (shaN_lt (P1 ++ b))
                have HMf2 := Lib.hid HMf.out
                obtain ⟨IN, hIN⟩ : ∃ I, shaN (P1 ++ b) = I := ⟨_, rfl⟩
                rw [hIN] at HC7 HSl HS8 HMf2
                clear hIN HMf
                go_wp2_with (at_builtin; refine appna (w0 := w) .u8 w.heap.size (.tmp 52) (.tmp 56) 41 5 1 rfl rfl Try.underlying41 info_u8 (by decide) (.slice Ao 64 co) (nat P2) (nat IN) A7 32 c7 rfl rfl HRo7.out HC7.out HB7.out HB7.out.size (by rw [nat_length, HP2.out]; decide) ?_; intro v8 w8 ho8 hb8 _ _; (have HO8 := Lib.hid ho8); (have HB8' := Lib.hid hb8); clear ho8 hb8)
                have ho8 := HO8.out
                rw [← nat_app] at ho8
                obtain ⟨A8, c8, hv8, hc8, hC8⟩ := Kd.R_reads ho8
                have hOl : (P2 ++ IN).length = 96 := by rw [List.length_append, HP2.out, HSl.out]
                rw [nat_length] at hv8 hC8
                have hq := rwith_any (P2 ++ IN) A8 Ak As c8 ck cs w8 (by rw [hOl]; decide) hC8 (app_lt HP28.out HS8.out) (Kd.C_below HK.out HB8'.out) (Kd.C_below HS.out HB8'.out)
                rw [← HMf2.out] at hq
                rw [hOl] at hq hv8
                subst hv8
                have HQ := Lib.hid hq
                clear ho8 hc8 hC8 hOl hq HO8 HRo7 HC7
                go_wp2_with fail
                refine HQ.out.mono ?_
                rintro e w9 ⟨v9, rfl, hr9, hb9⟩
                have HR9 := Lib.hid (Kd.R_lower hr9 HB8'.out.size)
                have HB9 := Lib.hid (HB8'.out.trans (hb9.mono HB8'.out.size))
                clear hr9 hb9 HQ
                go_wp2_with fail
                go_ret
                exact ⟨_, rfl, HR9.out, HB9.out⟩
end Go.Proofs.Ytblnclooobggnaa.Mc

namespace Go.Proofs.Ytblnclooobggnaa.Se
open Go.RowKit Go.Proofs.Ytblnclooobggnaa.L Go.Proofs.Ytblnclooobggnaa.N Go.Proofs.Ytblnclooobggnaa.A Go.Proofs.Ytblnclooobggnaa.Mc Go.Proofs.YtblnclooobggnaaW.PrintWords

theorem consts_any (w : World) : Calls Try.prog 53 #[] w fun e w' => ∃ v1 v2, e = .returned (.tuple #[v1, v2]) ∧ (Kd.int .u32).R 45 w' w.heap.size (fun _ => True) v1 (nat H.kN) ∧ (Kd.int .u32).R 45 w' w.heap.size (fun _ => True) v2 (nat H.begN) ∧ Below w.heap.size w w' := H.consts_any w
set_option maxRecDepth 100000 in
set_option maxHeartbeats 12800000 in
theorem rseal_0 (secret plain : List Nat) (A B : Option Addr) (ca cb n : Nat) (w : World) (hA : (Kd.int .u8).C w A secret.length (nat secret)) (ha : ∀ x ∈ secret, x < 256) (hal : secret.length ≤ 100000) (hB : (Kd.int .u8).C w B plain.length (nat plain)) (hb8 : ∀ x ∈ plain, x < 256) (hbl : plain.length ≤ 512) (hn : n ≤ 9223372036854775807) :
    Calls Try.prog 33 #[.slice A secret.length ca, .int .i64 0, .int .u64 (n : Int), .slice B plain.length cb] w fun e w' => ∃ v, e = .returned v ∧ (Kd.int .u8).R 5 w' w.heap.size (fun _ => True) v (nat (sealN 0 (hideK secret) (markK secret) n plain)) ∧ Below w.heap.size w w' := by
  have HA := Lib.hid hA
  have HA8 := Lib.hid ha
  have HAl := Lib.hid hal
  have HB := Lib.hid hB
  have HB8 := Lib.hid hb8
  have HBl := Lib.hid hbl
  have HHk := Lib.hid (show (markN secret [104, 105, 100, 101, 0, 0]).take 16 = hideK secret from rfl)
  have HMk := Lib.hid (show (markN secret [109, 97, 114, 107, 0, 0]).take 16 = markK secret from rfl)
  have HHl := Lib.hid (show (hideK secret).length = 16 from drvN_len _ _ _)
  have HH8 := Lib.hid (show ∀ x ∈ hideK secret, x < 256 from drvN_lt _ _ _)
  have HMl := Lib.hid (show (markK secret).length = 16 from drvN_len _ _ _)
  have HM8 := Lib.hid (show ∀ x ∈ markK secret, x < 256 from drvN_lt _ _ _)
  obtain ⟨N, hN⟩ : ∃ N, numN 0 n = N := ⟨_, rfl⟩
  have hNe : N = n := by rw [← hN]; unfold numN; omega
  have HNl := Lib.hid (show N < 18446744073709551616 from by omega)
  have HSe := Lib.hid (show sealN 0 (hideK secret) (markK secret) n plain = (be8 N ++ hideN (hideK secret) N plain) ++ (markN (markK secret) (be8 N ++ hideN (hideK secret) N plain)).take 16 from by rw [← hN]; rfl)
  subst hNe
  have z1 : (plain.length : Int) ≤ 512 := by omega
  have z2 : (N : Int) ≤ 9223372036854775807 := by omega
  have z3 : (0 : Int) ≤ (N : Int) := by omega
  have HDr := Lib.hid (show (be8 N).drop 8 = [] from List.drop_eq_nil_of_le (by rw [be8_len]; exact Nat.le_refl _))
  obtain ⟨SL, hSL⟩ : ∃ S, sealN 0 (hideK secret) (markK secret) N plain = S := ⟨_, rfl⟩
  rw [hSL] at HSe ⊢
  generalize hideK secret = KH at *
  generalize markK secret = KM at *
  clear hA ha hal hB hb8 hbl hn hN hSL
  have hcv := fun (w : World) (C : Array Value) (n c : Nat) => cv_at w C n c w.heap.size rfl
  go_enter Try.func33, Try.ntmps33
  go_wp2_with fail
  refine (consts_any w).mono ?_
  rintro e w2 ⟨v1, v2, rfl, hk, hs, hb⟩
  obtain ⟨A1, c1, hv1, hc1, hC1⟩ := Kd.R_reads hk
  obtain ⟨A2, c2, hv2, hc2, hC2⟩ := Kd.R_reads hs
  have hv1' : v1 = .slice A1 64 c1 := hv1
  have hv2' : v2 = .slice A2 8 c2 := hv2
  subst hv1'
  subst hv2'
  have HKc := Lib.hid (show (Kd.int .u32).C w2 A1 64 (nat H.kN) from hC1)
  have HSc := Lib.hid (show (Kd.int .u32).C w2 A2 8 (nat H.begN) from hC2)
  have HB2 := Lib.hid hb
  clear hk hs hb hv1 hv2 hc1 hc2 hC1 hC2
  go_wp2_with fail
  refine calls_at fun Xh hXh => ?_
  have hlh := C_lit [104, 105, 100, 101, 0, 0] w2 (6, 7) (by decide)
  have hbxh : Below w2.heap.size w2 Xh := by rw [hXh]; exact (Below.refl _ _).alloc (Nat.le_refl _) _
  have hwxh := HB2.out.trans (hbxh.mono HB2.out.size)
  have h2xh : Below w2.heap.size w2 Xh := (Below.refl _ _).trans (hbxh.mono (Nat.le_refl _))
  have hq := rmac_any secret [104, 105, 100, 101, 0, 0] A1 A2 A (some ⟨w2.heap.size, 0, none⟩) c1 c2 ca 6 Xh (Kd.C_below HKc.out h2xh) (Kd.C_below HSc.out h2xh) (Kd.C_below HA.out hwxh) HA8.out HAl.out (by rw [hXh]; exact hlh) (by decide) (by decide)
  have HQ := Lib.hid hq
  have HWx := Lib.hid hwxh
  have H2x := Lib.hid h2xh
  have HXh := Lib.hid hbxh
  clear hXh hlh hbxh hwxh h2xh hq
  refine HQ.out.mono ?_
  rintro e w3 ⟨vh, rfl, hrh, hbh⟩
  obtain ⟨Ah, ch, hvh, hch, hCh⟩ := Kd.R_reads hrh
  rw [nat_length, markN_len] at hvh hch hCh
  subst hvh
  obtain ⟨hcth, hCth⟩ := cutT Ah 32 ch 16 16 rfl (by decide) hch
  have HCh := Lib.hid (show (Kd.int .u8).C w3 Ah 16 (nat ((markN secret [104, 105, 100, 101, 0, 0]).take 16)) from hCth w3 _ hCh)
  have HBoh := Lib.hid (HWx.out.trans (hbh.mono HWx.out.size))
  have H2oh := Lib.hid (H2x.out.trans (hbh.mono H2x.out.size))
  have HSth := Lib.hid (HXh.out.trans (hbh.mono HXh.out.size))
  clear hrh hbh hch hCh hCth HQ HWx H2x HXh
  go_wp2_with fail
  refine calls_at fun Xm hXm => ?_
  have hlm := C_lit [109, 97, 114, 107, 0, 0] w3 (6, 7) (by decide)
  have hbxm : Below w3.heap.size w3 Xm := by rw [hXm]; exact (Below.refl _ _).alloc (Nat.le_refl _) _
  have hwxm := HBoh.out.trans (hbxm.mono HBoh.out.size)
  have h2xm : Below w2.heap.size w2 Xm := H2oh.out.trans (hbxm.mono H2oh.out.size)
  have hq := rmac_any secret [109, 97, 114, 107, 0, 0] A1 A2 A (some ⟨w3.heap.size, 0, none⟩) c1 c2 ca 6 Xm (Kd.C_below HKc.out h2xm) (Kd.C_below HSc.out h2xm) (Kd.C_below HA.out hwxm) HA8.out HAl.out (by rw [hXm]; exact hlm) (by decide) (by decide)
  have HQ := Lib.hid hq
  have HWx := Lib.hid hwxm
  have H2x := Lib.hid h2xm
  have HXm := Lib.hid hbxm
  clear hXm hlm hbxm hwxm h2xm hq
  refine HQ.out.mono ?_
  rintro e w4 ⟨vm, rfl, hrm, hbm⟩
  obtain ⟨Am, cm, hvm, hcm, hCm⟩ := Kd.R_reads hrm
  rw [nat_length, markN_len] at hvm hcm hCm
  subst hvm
  obtain ⟨hctm, hCtm⟩ := cutT Am 32 cm 16 16 rfl (by decide) hcm
  have HCm := Lib.hid (show (Kd.int .u8).C w4 Am 16 (nat ((markN secret [109, 97, 114, 107, 0, 0]).take 16)) from hCtm w4 _ hCm)
  have HBom := Lib.hid (HWx.out.trans (hbm.mono HWx.out.size))
  have H2om := Lib.hid (H2x.out.trans (hbm.mono H2x.out.size))
  have HStm := Lib.hid (HXm.out.trans (hbm.mono HXm.out.size))
  clear hrm hbm hcm hCm hCtm HQ HWx H2x HXm
  have HC3 := Lib.hid (show (Kd.int .u8).C w4 Ah 16 (nat KH) from by rw [← HHk.out]; exact Kd.C_below HCh.out HStm.out)
  have HC4 := Lib.hid (show (Kd.int .u8).C w4 Am 16 (nat KM) from by rw [← HMk.out]; exact HCm.out)
  have HNh := Lib.hid (show True from trivial)
  clear HCh HCm HHk HMk HBoh H2oh HSth HStm hcv HNh
  go_wp2_with fail
  go_loopg [14, 15, 16] 9 (fun g v14 v15 v16 w' => ∃ i q : Nat, v16 = .int .i64 (i : Int) ∧ v15 = .int .u64 (q : Int) ∧ Hid (i ≤ 8 ∧ 8 < g + i) ∧ Hid (N / 256 ^ i = q) ∧ Hid ((Kd.int .u8).R 5 w' w4.heap.size (fun _ => True) v14 (nat ((be8 N).drop (8 - i)))) ∧ Hid (Below w4.heap.size w4 w'))
  case atStart => exact ⟨0, N, rfl, rfl, Lib.hid ⟨by omega, by omega⟩, Lib.hid (by rw [Nat.pow_zero, Nat.div_one]), Lib.hid (by rw [HDr.out]; exact Kd.R_nil _ _ _ _ _), Lib.hid (Below.refl _ _)⟩
  case round =>
    obtain ⟨i, q, rfl, rfl, HQ, HE, HR9, HBo⟩ := hrel
    cases gk with
    | zero => have := HQ.out; omega
    | succ k2 =>
      have hqb : q < 18446744073709551616 := by have := HE.out; have h1 := HNl.out; have := Nat.div_le_self N (256 ^ i); omega
      by_cases hlt : i < 8
      · have HQ' := Lib.hid (show i < 8 ∧ 8 < (k2 + 1) + i from ⟨hlt, HQ.out.2⟩)
        obtain ⟨d, hd⟩ : ∃ d, q % 256 = d := ⟨_, rfl⟩
        obtain ⟨q2, hq2⟩ : ∃ d, q / 256 = d := ⟨_, rfl⟩
        have HDx := Lib.hid (be8_drop hlt HE.out hd)
        have HE2 := Lib.hid (show N / 256 ^ (i + 1) = q2 from by rw [Nat.pow_succ, ← Nat.div_div_eq_div_mul, HE.out, hq2])
        have e1 : (q : Int) % 256 = (d : Int) := by omega
        have e2 : (q : Int) / 256 = (q2 : Int) := by omega
        have e3 : (q : Int) < 18446744073709551616 := by omega
        have e4 : (0 : Int) ≤ (q : Int) := by omega
        have e5 : (d : Int) < 256 := by omega
        have e6 : (0 : Int) ≤ (d : Int) := by omega
        have e7 : (i : Int) < 8 := by omega
        obtain ⟨A9, c9, hv9, hc9, hC9⟩ := Kd.R_reads HR9.out
        obtain ⟨n9, hn9⟩ : ∃ n, (nat ((be8 N).drop (8 - i))).length = n := ⟨_, rfl⟩
        rw [hn9] at hv9 hC9
        subst hv9
        have HC9 := Lib.hid hC9
        have HL9 := Lib.hid (show n9 ≤ 8 from by rw [← hn9, nat_length, List.length_drop, be8_len]; omega)
        clear hlt HQ hqb hd hq2 hc9 hC9 hn9
        generalize nat ((be8 N).drop (8 - i)) = X at *
        go_wp2_with (at_builtin; refine appn (w0 := wr.alloc (.cells #[.int .u8 (d : Int)] 5)) .u8 w4.heap.size (.tmp 48) (.tmp 49) 41 5 1 rfl rfl Try.underlying41 info_u8 (by decide) (.slice (some ⟨wr.heap.size, 0, none⟩) 1 1) [(d : Int)] X A9 n9 c9 rfl rfl (H.ownK (l := [d]) (AB.mk wr .u8 5 [d]) HBo.out.size (show 1 ≤ maxLen by decide)) (Kd.C_alloc HC9.out _) (Below.refl _ _) (Nat.le_trans HBo.out.size (by simp)) (by have := HL9.out; simp; omega) ?_; intro v5 w5 ho5 hb5 hg5; (have HO5 := Lib.hid ho5); (have HG5 := Lib.hid hg5); clear ho5 hb5 hg5)
        have h5 := below_new (show (wr.alloc _).grownBy w5 (some wr.heap.size) from HG5.out)
        have HB55 := Lib.hid (HBo.out.trans (h5.1.mono HBo.out.size))
        clear HG5 h5
        go_roundg k2
        case measure => have := HQ'.out; omega
        case rel => exact ⟨i + 1, q2, by go_num, rfl, Lib.hid (by have := HQ'.out; omega), HE2, Lib.hid (by rw [HDx.out]; exact HO5.out), HB55⟩
      · obtain rfl : i = 8 := by have := HQ.out; omega
        clear hlt HQ HE hqb
        obtain ⟨A9, c9, hv9, hc9, hC9⟩ := Kd.R_reads HR9.out
        rw [show 8 - 8 = 0 from rfl, List.drop_zero, nat_length, be8_len] at hv9
        subst hv9
        have HRb := Lib.hid (show (Kd.int .u8).R 5 wr w4.heap.size (fun _ => True) (.slice A9 8 c9) (nat (be8 N)) from by have := HR9.out; rwa [show 8 - 8 = 0 from rfl, List.drop_zero] at this)
        have HBw := Lib.hid (HBom.out.trans (HBo.out.mono HBom.out.size))
        have H2w := Lib.hid (H2om.out.trans (HBo.out.mono H2om.out.size))
        have HQ := Lib.hid (rhide_any KH N plain Ah B ch cb wr (Kd.C_below HC3.out HBo.out) HHl.out HH8.out HNl.out (Kd.C_below HB.out HBw.out) HB8.out (by have := HBl.out; omega))
        clear hc9 hC9 HR9
        go_wp2_with fail
        refine HQ.out.mono ?_
        rintro e w5 ⟨v5, rfl, hr5, hb5⟩
        obtain ⟨A5, c5, hv5, hc5, hC5⟩ := Kd.R_reads hr5
        rw [nat_length, hideN_len] at hv5 hC5
        subst hv5
        have HC5 := Lib.hid hC5
        have HRb5 := Lib.hid (Kd.R_below HRb.out hb5)
        have HBx := Lib.hid (HBw.out.trans (hb5.mono HBw.out.size))
        have HBo5 := Lib.hid (HBo.out.trans (hb5.mono HBo.out.size))
        have H25 := Lib.hid (H2w.out.trans (hb5.mono H2w.out.size))
        have HDl := Lib.hid (hideN_len KH N plain)
        have HD8 := Lib.hid (hideN_lt HH8.out N HB8.out)
        have HSe2 := Lib.hid HSe.out
        clear hr5 hb5 hc5 hC5 HQ HRb HBw HBo H2w HSe
        generalize hideN KH N plain = HD at *
        go_wp2_with (at_builtin; refine appn (w0 := w4) .u8 w4.heap.size (.tmp 53) (.tmp 57) 41 5 1 rfl rfl Try.underlying41 info_u8 (by decide) (.slice A9 8 c9) (nat (be8 N)) (nat HD) A5 plain.length c5 rfl rfl HRb5.out HC5.out HBo5.out HBo5.out.size (by rw [nat_length, be8_len]; have := HBl.out; omega) ?_; intro v6 w6 ho6 hb6 hg6; (have HO6 := Lib.hid ho6); (have HB6 := Lib.hid hb6); clear ho6 hb6 hg6)
        have ho6 := HO6.out
        rw [← nat_app] at ho6
        have hBl : (be8 N ++ HD).length = plain.length + 8 := by rw [List.length_append, be8_len, HDl.out]; omega
        have hB8 : ∀ x ∈ be8 N ++ HD, x < 256 := app_lt (be8_lt N) HD8.out
        obtain ⟨BD, hBD⟩ : ∃ D, be8 N ++ HD = D := ⟨_, rfl⟩
        rw [hBD] at ho6 hBl hB8 HSe2
        obtain ⟨A6, c6, hv6, hc6, hC6⟩ := Kd.R_reads ho6
        rw [nat_length] at hv6 hC6
        subst hv6
        have hw6 := HBom.out.trans (HB6.out.mono HBom.out.size)
        have h26 := H2om.out.trans (HB6.out.mono H2om.out.size)
        have hq := rmac_any KM BD A1 A2 Am A6 c1 c2 cm c6 w6 (Kd.C_below HKc.out h26) (Kd.C_below HSc.out h26) (by rw [HMl.out]; exact Kd.C_below HC4.out HB6.out) HM8.out (by rw [HMl.out]; decide) hC6 hB8 (by rw [hBl]; have := HBl.out; omega)
        rw [HMl.out] at hq
        have HQ := Lib.hid hq
        have HR6 := Lib.hid ho6
        have HBd := Lib.hid hBl
        have HW6 := Lib.hid hw6
        clear ho6 hBl hB8 hBD hc6 hC6 hw6 h26 hq HO6
        go_wp2_with fail
        refine HQ.out.mono ?_
        rintro e w7 ⟨v7, rfl, hr7, hb7⟩
        obtain ⟨A7, c7, hv7, hc7, hC7⟩ := Kd.R_reads hr7
        rw [nat_length, markN_len] at hv7 hc7 hC7
        subst hv7
        obtain ⟨hct7, hCt7⟩ := cutT A7 32 c7 16 16 rfl (by decide) hc7
        have HC7 := Lib.hid (hCt7 w7 _ hC7)
        have HR7 := Lib.hid (Kd.R_below HR6.out hb7)
        have HB7 := Lib.hid (HB6.out.trans (hb7.mono HB6.out.size))
        clear hr7 hb7 hc7 hC7 hCt7 HQ HR6 HB6
        go_wp2_with (at_builtin; refine appn (w0 := w4) .u8 w4.heap.size (.tmp 59) (.tmp 65) 41 5 1 rfl rfl Try.underlying41 info_u8 (by decide) (.slice A6 BD.length c6) (nat BD) (nat ((markN KM BD).take 16)) A7 16 c7 rfl rfl HR7.out HC7.out HB7.out HB7.out.size (by rw [nat_length, HBd.out]; have := HBl.out; omega) ?_; intro v8 w8 ho8 hb8 hg8; (have HO8 := Lib.hid ho8); (have HB8x := Lib.hid hb8); clear ho8 hb8 hg8)
        have ho8 := HO8.out
        rw [← nat_app, ← HSe2.out] at ho8
        have HR8 := Lib.hid (Kd.R_lower ho8 HBom.out.size)
        have HBf := Lib.hid (HBom.out.trans (HB8x.out.mono HBom.out.size))
        clear ho8 HO8
        go_ret
        exact ⟨_, rfl, HR8.out, HBf.out⟩
set_option maxRecDepth 100000 in
set_option maxHeartbeats 12800000 in
theorem rseal_1 (secret plain : List Nat) (A B : Option Addr) (ca cb n : Nat) (w : World) (hA : (Kd.int .u8).C w A secret.length (nat secret)) (ha : ∀ x ∈ secret, x < 256) (hal : secret.length ≤ 100000) (hB : (Kd.int .u8).C w B plain.length (nat plain)) (hb8 : ∀ x ∈ plain, x < 256) (hbl : plain.length ≤ 512) (hn : n ≤ 9223372036854775807) :
    Calls Try.prog 33 #[.slice A secret.length ca, .int .i64 1, .int .u64 (n : Int), .slice B plain.length cb] w fun e w' => ∃ v, e = .returned v ∧ (Kd.int .u8).R 5 w' w.heap.size (fun _ => True) v (nat (sealN 1 (hideK secret) (markK secret) n plain)) ∧ Below w.heap.size w w' := by
  have HA := Lib.hid hA
  have HA8 := Lib.hid ha
  have HAl := Lib.hid hal
  have HB := Lib.hid hB
  have HB8 := Lib.hid hb8
  have HBl := Lib.hid hbl
  have HHk := Lib.hid (show (markN secret [104, 105, 100, 101, 0, 0]).take 16 = hideK secret from rfl)
  have HMk := Lib.hid (show (markN secret [109, 97, 114, 107, 0, 0]).take 16 = markK secret from rfl)
  have HHl := Lib.hid (show (hideK secret).length = 16 from drvN_len _ _ _)
  have HH8 := Lib.hid (show ∀ x ∈ hideK secret, x < 256 from drvN_lt _ _ _)
  have HMl := Lib.hid (show (markK secret).length = 16 from drvN_len _ _ _)
  have HM8 := Lib.hid (show ∀ x ∈ markK secret, x < 256 from drvN_lt _ _ _)
  obtain ⟨N, hN⟩ : ∃ N, numN 1 n = N := ⟨_, rfl⟩
  have hNe : N = 9223372036854775808 + n := by rw [← hN]; unfold numN; omega
  have HNl := Lib.hid (show N < 18446744073709551616 from by omega)
  have HSe := Lib.hid (show sealN 1 (hideK secret) (markK secret) n plain = (be8 N ++ hideN (hideK secret) N plain) ++ (markN (markK secret) (be8 N ++ hideN (hideK secret) N plain)).take 16 from by rw [← hN]; rfl)
  have e0 : (n : Int) + 9223372036854775808 = (N : Int) := by omega
  have e1 : IntKind.u64.wrap ((n : Int) + 9223372036854775808) = (N : Int) := by rw [e0]; exact wraps_u64 _ (by omega) (by omega)
  have z1 : (plain.length : Int) ≤ 512 := by omega
  have z2 : (n : Int) ≤ 9223372036854775807 := by omega
  have z3 : (0 : Int) ≤ (n : Int) := by omega
  have HDr := Lib.hid (show (be8 N).drop 8 = [] from List.drop_eq_nil_of_le (by rw [be8_len]; exact Nat.le_refl _))
  obtain ⟨SL, hSL⟩ : ∃ S, sealN 1 (hideK secret) (markK secret) n plain = S := ⟨_, rfl⟩
  rw [hSL] at HSe ⊢
  generalize hideK secret = KH at *
  generalize markK secret = KM at *
  clear hA ha hal hB hb8 hbl hn hN hSL hNe
  have hcv := fun (w : World) (C : Array Value) (n c : Nat) => cv_at w C n c w.heap.size rfl
  go_enter Try.func33, Try.ntmps33
  go_wp2_with fail
  refine (consts_any w).mono ?_
  rintro e w2 ⟨v1, v2, rfl, hk, hs, hb⟩
  obtain ⟨A1, c1, hv1, hc1, hC1⟩ := Kd.R_reads hk
  obtain ⟨A2, c2, hv2, hc2, hC2⟩ := Kd.R_reads hs
  have hv1' : v1 = .slice A1 64 c1 := hv1
  have hv2' : v2 = .slice A2 8 c2 := hv2
  subst hv1'
  subst hv2'
  have HKc := Lib.hid (show (Kd.int .u32).C w2 A1 64 (nat H.kN) from hC1)
  have HSc := Lib.hid (show (Kd.int .u32).C w2 A2 8 (nat H.begN) from hC2)
  have HB2 := Lib.hid hb
  clear hk hs hb hv1 hv2 hc1 hc2 hC1 hC2
  go_wp2_with fail
  refine calls_at fun Xh hXh => ?_
  have hlh := C_lit [104, 105, 100, 101, 0, 0] w2 (6, 7) (by decide)
  have hbxh : Below w2.heap.size w2 Xh := by rw [hXh]; exact (Below.refl _ _).alloc (Nat.le_refl _) _
  have hwxh := HB2.out.trans (hbxh.mono HB2.out.size)
  have h2xh : Below w2.heap.size w2 Xh := (Below.refl _ _).trans (hbxh.mono (Nat.le_refl _))
  have hq := rmac_any secret [104, 105, 100, 101, 0, 0] A1 A2 A (some ⟨w2.heap.size, 0, none⟩) c1 c2 ca 6 Xh (Kd.C_below HKc.out h2xh) (Kd.C_below HSc.out h2xh) (Kd.C_below HA.out hwxh) HA8.out HAl.out (by rw [hXh]; exact hlh) (by decide) (by decide)
  have HQ := Lib.hid hq
  have HWx := Lib.hid hwxh
  have H2x := Lib.hid h2xh
  have HXh := Lib.hid hbxh
  clear hXh hlh hbxh hwxh h2xh hq
  refine HQ.out.mono ?_
  rintro e w3 ⟨vh, rfl, hrh, hbh⟩
  obtain ⟨Ah, ch, hvh, hch, hCh⟩ := Kd.R_reads hrh
  rw [nat_length, markN_len] at hvh hch hCh
  subst hvh
  obtain ⟨hcth, hCth⟩ := cutT Ah 32 ch 16 16 rfl (by decide) hch
  have HCh := Lib.hid (show (Kd.int .u8).C w3 Ah 16 (nat ((markN secret [104, 105, 100, 101, 0, 0]).take 16)) from hCth w3 _ hCh)
  have HBoh := Lib.hid (HWx.out.trans (hbh.mono HWx.out.size))
  have H2oh := Lib.hid (H2x.out.trans (hbh.mono H2x.out.size))
  have HSth := Lib.hid (HXh.out.trans (hbh.mono HXh.out.size))
  clear hrh hbh hch hCh hCth HQ HWx H2x HXh
  go_wp2_with fail
  refine calls_at fun Xm hXm => ?_
  have hlm := C_lit [109, 97, 114, 107, 0, 0] w3 (6, 7) (by decide)
  have hbxm : Below w3.heap.size w3 Xm := by rw [hXm]; exact (Below.refl _ _).alloc (Nat.le_refl _) _
  have hwxm := HBoh.out.trans (hbxm.mono HBoh.out.size)
  have h2xm : Below w2.heap.size w2 Xm := H2oh.out.trans (hbxm.mono H2oh.out.size)
  have hq := rmac_any secret [109, 97, 114, 107, 0, 0] A1 A2 A (some ⟨w3.heap.size, 0, none⟩) c1 c2 ca 6 Xm (Kd.C_below HKc.out h2xm) (Kd.C_below HSc.out h2xm) (Kd.C_below HA.out hwxm) HA8.out HAl.out (by rw [hXm]; exact hlm) (by decide) (by decide)
  have HQ := Lib.hid hq
  have HWx := Lib.hid hwxm
  have H2x := Lib.hid h2xm
  have HXm := Lib.hid hbxm
  clear hXm hlm hbxm hwxm h2xm hq
  refine HQ.out.mono ?_
  rintro e w4 ⟨vm, rfl, hrm, hbm⟩
  obtain ⟨Am, cm, hvm, hcm, hCm⟩ := Kd.R_reads hrm
  rw [nat_length, markN_len] at hvm hcm hCm
  subst hvm
  obtain ⟨hctm, hCtm⟩ := cutT Am 32 cm 16 16 rfl (by decide) hcm
  have HCm := Lib.hid (show (Kd.int .u8).C w4 Am 16 (nat ((markN secret [109, 97, 114, 107, 0, 0]).take 16)) from hCtm w4 _ hCm)
  have HBom := Lib.hid (HWx.out.trans (hbm.mono HWx.out.size))
  have H2om := Lib.hid (H2x.out.trans (hbm.mono H2x.out.size))
  have HStm := Lib.hid (HXm.out.trans (hbm.mono HXm.out.size))
  clear hrm hbm hcm hCm hCtm HQ HWx H2x HXm
  have HC3 := Lib.hid (show (Kd.int .u8).C w4 Ah 16 (nat KH) from by rw [← HHk.out]; exact Kd.C_below HCh.out HStm.out)
  have HC4 := Lib.hid (show (Kd.int .u8).C w4 Am 16 (nat KM) from by rw [← HMk.out]; exact HCm.out)
  have HNh := Lib.hid (show True from trivial)
  clear HCh HCm HHk HMk HBoh H2oh HSth HStm hcv HNh
  go_wp2_with fail
  clear e0 e1
  go_loopg [14, 15, 16] 9 (fun g v14 v15 v16 w' => ∃ i q : Nat, v16 = .int .i64 (i : Int) ∧ v15 = .int .u64 (q : Int) ∧ Hid (i ≤ 8 ∧ 8 < g + i) ∧ Hid (N / 256 ^ i = q) ∧ Hid ((Kd.int .u8).R 5 w' w4.heap.size (fun _ => True) v14 (nat ((be8 N).drop (8 - i)))) ∧ Hid (Below w4.heap.size w4 w'))
  case atStart => exact ⟨0, N, rfl, rfl, Lib.hid ⟨by omega, by omega⟩, Lib.hid (by rw [Nat.pow_zero, Nat.div_one]), Lib.hid (by rw [HDr.out]; exact Kd.R_nil _ _ _ _ _), Lib.hid (Below.refl _ _)⟩
  case round =>
    obtain ⟨i, q, rfl, rfl, HQ, HE, HR9, HBo⟩ := hrel
    cases gk with
    | zero => have := HQ.out; omega
    | succ k2 =>
      have hqb : q < 18446744073709551616 := by have := HE.out; have h1 := HNl.out; have := Nat.div_le_self N (256 ^ i); omega
      by_cases hlt : i < 8
      · have HQ' := Lib.hid (show i < 8 ∧ 8 < (k2 + 1) + i from ⟨hlt, HQ.out.2⟩)
        obtain ⟨d, hd⟩ : ∃ d, q % 256 = d := ⟨_, rfl⟩
        obtain ⟨q2, hq2⟩ : ∃ d, q / 256 = d := ⟨_, rfl⟩
        have HDx := Lib.hid (be8_drop hlt HE.out hd)
        have HE2 := Lib.hid (show N / 256 ^ (i + 1) = q2 from by rw [Nat.pow_succ, ← Nat.div_div_eq_div_mul, HE.out, hq2])
        have e1 : (q : Int) % 256 = (d : Int) := by omega
        have e2 : (q : Int) / 256 = (q2 : Int) := by omega
        have e3 : (q : Int) < 18446744073709551616 := by omega
        have e4 : (0 : Int) ≤ (q : Int) := by omega
        have e5 : (d : Int) < 256 := by omega
        have e6 : (0 : Int) ≤ (d : Int) := by omega
        have e7 : (i : Int) < 8 := by omega
        obtain ⟨A9, c9, hv9, hc9, hC9⟩ := Kd.R_reads HR9.out
        obtain ⟨n9, hn9⟩ : ∃ n, (nat ((be8 N).drop (8 - i))).length = n := ⟨_, rfl⟩
        rw [hn9] at hv9 hC9
        subst hv9
        have HC9 := Lib.hid hC9
        have HL9 := Lib.hid (show n9 ≤ 8 from by rw [← hn9, nat_length, List.length_drop, be8_len]; omega)
        clear hlt HQ hqb hd hq2 hc9 hC9 hn9
        generalize nat ((be8 N).drop (8 - i)) = X at *
        go_wp2_with (at_builtin; refine appn (w0 := wr.alloc (.cells #[.int .u8 (d : Int)] 5)) .u8 w4.heap.size (.tmp 48) (.tmp 49) 41 5 1 rfl rfl Try.underlying41 info_u8 (by decide) (.slice (some ⟨wr.heap.size, 0, none⟩) 1 1) [(d : Int)] X A9 n9 c9 rfl rfl (H.ownK (l := [d]) (AB.mk wr .u8 5 [d]) HBo.out.size (show 1 ≤ maxLen by decide)) (Kd.C_alloc HC9.out _) (Below.refl _ _) (Nat.le_trans HBo.out.size (by simp)) (by have := HL9.out; simp; omega) ?_; intro v5 w5 ho5 hb5 hg5; (have HO5 := Lib.hid ho5); (have HG5 := Lib.hid hg5); clear ho5 hb5 hg5)
        have h5 := below_new (show (wr.alloc _).grownBy w5 (some wr.heap.size) from HG5.out)
        have HB55 := Lib.hid (HBo.out.trans (h5.1.mono HBo.out.size))
        clear HG5 h5
        go_roundg k2
        case measure => have := HQ'.out; omega
        case rel => exact ⟨i + 1, q2, by go_num, rfl, Lib.hid (by have := HQ'.out; omega), HE2, Lib.hid (by rw [HDx.out]; exact HO5.out), HB55⟩
      · obtain rfl : i = 8 := by have := HQ.out; omega
        clear hlt HQ HE hqb
        obtain ⟨A9, c9, hv9, hc9, hC9⟩ := Kd.R_reads HR9.out
        rw [show 8 - 8 = 0 from rfl, List.drop_zero, nat_length, be8_len] at hv9
        subst hv9
        have HRb := Lib.hid (show (Kd.int .u8).R 5 wr w4.heap.size (fun _ => True) (.slice A9 8 c9) (nat (be8 N)) from by have := HR9.out; rwa [show 8 - 8 = 0 from rfl, List.drop_zero] at this)
        have HBw := Lib.hid (HBom.out.trans (HBo.out.mono HBom.out.size))
        have H2w := Lib.hid (H2om.out.trans (HBo.out.mono H2om.out.size))
        have HQ := Lib.hid (rhide_any KH N plain Ah B ch cb wr (Kd.C_below HC3.out HBo.out) HHl.out HH8.out HNl.out (Kd.C_below HB.out HBw.out) HB8.out (by have := HBl.out; omega))
        clear hc9 hC9 HR9
        go_wp2_with fail
        refine HQ.out.mono ?_
        rintro e w5 ⟨v5, rfl, hr5, hb5⟩
        obtain ⟨A5, c5, hv5, hc5, hC5⟩ := Kd.R_reads hr5
        rw [nat_length, hideN_len] at hv5 hC5
        subst hv5
        have HC5 := Lib.hid hC5
        have HRb5 := Lib.hid (Kd.R_below HRb.out hb5)
        have HBx := Lib.hid (HBw.out.trans (hb5.mono HBw.out.size))
        have HBo5 := Lib.hid (HBo.out.trans (hb5.mono HBo.out.size))
        have H25 := Lib.hid (H2w.out.trans (hb5.mono H2w.out.size))
        have HDl := Lib.hid (hideN_len KH N plain)
        have HD8 := Lib.hid (hideN_lt HH8.out N HB8.out)
        have HSe2 := Lib.hid HSe.out
        clear hr5 hb5 hc5 hC5 HQ HRb HBw HBo H2w HSe
        generalize hideN KH N plain = HD at *
        go_wp2_with (at_builtin; refine appn (w0 := w4) .u8 w4.heap.size (.tmp 53) (.tmp 57) 41 5 1 rfl rfl Try.underlying41 info_u8 (by decide) (.slice A9 8 c9) (nat (be8 N)) (nat HD) A5 plain.length c5 rfl rfl HRb5.out HC5.out HBo5.out HBo5.out.size (by rw [nat_length, be8_len]; have := HBl.out; omega) ?_; intro v6 w6 ho6 hb6 hg6; (have HO6 := Lib.hid ho6); (have HB6 := Lib.hid hb6); clear ho6 hb6 hg6)
        have ho6 := HO6.out
        rw [← nat_app] at ho6
        have hBl : (be8 N ++ HD).length = plain.length + 8 := by rw [List.length_append, be8_len, HDl.out]; omega
        have hB8 : ∀ x ∈ be8 N ++ HD, x < 256 := app_lt (be8_lt N) HD8.out
        obtain ⟨BD, hBD⟩ : ∃ D, be8 N ++ HD = D := ⟨_, rfl⟩
        rw [hBD] at ho6 hBl hB8 HSe2
        obtain ⟨A6, c6, hv6, hc6, hC6⟩ := Kd.R_reads ho6
        rw [nat_length] at hv6 hC6
        subst hv6
        have hw6 := HBom.out.trans (HB6.out.mono HBom.out.size)
        have h26 := H2om.out.trans (HB6.out.mono H2om.out.size)
        have hq := rmac_any KM BD A1 A2 Am A6 c1 c2 cm c6 w6 (Kd.C_below HKc.out h26) (Kd.C_below HSc.out h26) (by rw [HMl.out]; exact Kd.C_below HC4.out HB6.out) HM8.out (by rw [HMl.out]; decide) hC6 hB8 (by rw [hBl]; have := HBl.out; omega)
        rw [HMl.out] at hq
        have HQ := Lib.hid hq
        have HR6 := Lib.hid ho6
        have HBd := Lib.hid hBl
        have HW6 := Lib.hid hw6
        clear ho6 hBl hB8 hBD hc6 hC6 hw6 h26 hq HO6
        go_wp2_with fail
        refine HQ.out.mono ?_
        rintro e w7 ⟨v7, rfl, hr7, hb7⟩
        obtain ⟨A7, c7, hv7, hc7, hC7⟩ := Kd.R_reads hr7
        rw [nat_length, markN_len] at hv7 hc7 hC7
        subst hv7
        obtain ⟨hct7, hCt7⟩ := cutT A7 32 c7 16 16 rfl (by decide) hc7
        have HC7 := Lib.hid (hCt7 w7 _ hC7)
        have HR7 := Lib.hid (Kd.R_below HR6.out hb7)
        have HB7 := Lib.hid (HB6.out.trans (hb7.mono HB6.out.size))
        clear hr7 hb7 hc7 hC7 hCt7 HQ HR6 HB6
        go_wp2_with (at_builtin; refine appn (w0 := w4) .u8 w4.heap.size (.tmp 59) (.tmp 65) 41 5 1 rfl rfl Try.underlying41 info_u8 (by decide) (.slice A6 BD.length c6) (nat BD) (nat ((markN KM BD).take 16)) A7 16 c7 rfl rfl HR7.out HC7.out HB7.out HB7.out.size (by rw [nat_length, HBd.out]; have := HBl.out; omega) ?_; intro v8 w8 ho8 hb8 hg8; (have HO8 := Lib.hid ho8); (have HB8x := Lib.hid hb8); clear ho8 hb8 hg8)
        have ho8 := HO8.out
        rw [← nat_app, ← HSe2.out] at ho8
        have HR8 := Lib.hid (Kd.R_lower ho8 HBom.out.size)
        have HBf := Lib.hid (HBom.out.trans (HB8x.out.mono HBom.out.size))
        clear ho8 HO8
        go_ret
        exact ⟨_, rfl, HR8.out, HBf.out⟩
theorem rseal_any (secret plain : List Nat) (A B : Option Addr) (ca cb side n : Nat) (w : World) (hs : side = 0 ∨ side = 1) (hA : (Kd.int .u8).C w A secret.length (nat secret)) (ha : ∀ x ∈ secret, x < 256) (hal : secret.length ≤ 100000) (hB : (Kd.int .u8).C w B plain.length (nat plain)) (hb8 : ∀ x ∈ plain, x < 256) (hbl : plain.length ≤ 512) (hn : n ≤ 9223372036854775807) :
    Calls Try.prog 33 #[.slice A secret.length ca, .int .i64 (side : Int), .int .u64 (n : Int), .slice B plain.length cb] w fun e w' => ∃ v, e = .returned v ∧ (Kd.int .u8).R 5 w' w.heap.size (fun _ => True) v (nat (sealN side (hideK secret) (markK secret) n plain)) ∧ Below w.heap.size w w' := by
  rcases hs with rfl | rfl
  · exact rseal_0 secret plain A B ca cb n w hA ha hal hB hb8 hbl hn
  · exact rseal_1 secret plain A B ca cb n w hA ha hal hB hb8 hbl hn
end Go.Proofs.Ytblnclooobggnaa.Se

namespace Go.Proofs.Ytblnclooobggnaa.Se
open Go.RowKit Go.Proofs.Ytblnclooobggnaa.L Go.Proofs.Ytblnclooobggnaa.N Go.Proofs.Ytblnclooobggnaa.A Go.Proofs.Ytblnclooobggnaa.Mc Go.Proofs.YtblnclooobggnaaW.PrintWords

/-- what an Open tells: a number, bytes and a code -/
def O3 (n : Nat) (l : List Nat) (code : Int) (w : World) (e : Ending) (w' : World) : Prop := ∃ A c, e = .returned (.tuple #[.int .u64 (n : Int), .slice A l.length c, .int .i64 code]) ∧ (Kd.int .u8).C w' A l.length (nat l) ∧ Below w.heap.size w w'
theorem C_nothing (w : World) : (Kd.int .u8).C w none 0 (nat []) := ⟨rfl, by decide, fun h => absurd h (by omega)⟩
set_option maxRecDepth 100000 in
theorem ropen_short (A B : Option Addr) (k ca n cb : Nat) (side : Int) (w : World) (l24 : n < 24) (_ : n ≤ 9223372036854775807) :
    Calls Try.prog 34 #[.slice A k ca, .int .i64 side, .slice B n cb] w (O3 0 [] 10 w) := by
  have z1 : (n : Int) < 24 := by omega
  have z2 : decide ((n : Int) < 24) = true := decide_eq_true z1
  clear l24
  go_enter Try.func34, Try.ntmps34
  go_wp2_with fail
  exact bodyPost_ret (v := .tuple #[.int .u64 0, .slice none 0 0, .int .i64 10]) (by simp [results, Try.results34]) rfl ⟨none, 0, rfl, C_nothing _, Below.refl _ _⟩
set_option maxRecDepth 100000 in
theorem ropen_long (A B : Option Addr) (k ca n cb : Nat) (side : Int) (w : World) (l536 : 536 < n) (hn : n ≤ 9223372036854775807) :
    Calls Try.prog 34 #[.slice A k ca, .int .i64 side, .slice B n cb] w (O3 0 [] 2 w) := by
  have z1 : ¬ (n : Int) < 24 := by omega
  have z2 : decide ((n : Int) < 24) = false := decide_eq_false z1
  have z3 : (536 : Int) < (n : Int) := by omega
  have z4 : decide ((536 : Int) < (n : Int)) = true := decide_eq_true z3
  clear l536 hn
  go_enter Try.func34, Try.ntmps34
  go_wp2_with fail
  exact bodyPost_ret (v := .tuple #[.int .u64 0, .slice none 0 0, .int .i64 2]) (by simp [results, Try.results34]) rfl ⟨none, 0, rfl, C_nothing _, Below.refl _ _⟩
set_option maxRecDepth 100000 in
set_option maxHeartbeats 12800000 in
theorem ropen_tag (secret l : List Nat) (A B : Option Addr) (ca cb side : Nat) (w : World) (hA : (Kd.int .u8).C w A secret.length (nat secret)) (ha : ∀ x ∈ secret, x < 256) (hal : secret.length ≤ 100000) (hB : (Kd.int .u8).C w B l.length (nat l)) (hc : l.length ≤ cb) (hl8 : ∀ x ∈ l, x < 256) (h24 : 24 ≤ l.length) (h536 : l.length ≤ 536) (hr : rightN (markK secret) (l.drop (l.length - 16)) (l.take (l.length - 16)) = false) :
    Calls Try.prog 34 #[.slice A secret.length ca, .int .i64 (side : Int), .slice B l.length cb] w (O3 0 [] 20 w) := by
  have HA := Lib.hid hA
  have HA8 := Lib.hid ha
  have HAl := Lib.hid hal
  have HB := Lib.hid hB
  have HL8 := Lib.hid hl8
  have HMk := Lib.hid (show (markN secret [109, 97, 114, 107, 0, 0]).take 16 = markK secret from rfl)
  have HMl := Lib.hid (show (markK secret).length = 16 from drvN_len _ _ _)
  have HM8 := Lib.hid (show ∀ x ∈ markK secret, x < 256 from drvN_lt _ _ _)
  obtain ⟨m, hm⟩ : ∃ m, l.length - 16 = m := ⟨_, rfl⟩
  have HL := Lib.hid (show l.length = m + 16 ∧ 8 ≤ m ∧ m ≤ 520 ∧ m + 16 ≤ cb from by omega)
  have zm : (l.length : Int) - 16 = (m : Int) := by omega
  obtain ⟨hct, hctC⟩ := cutT B l.length cb (m : Int) m rfl (by omega) hc
  obtain ⟨B2, cb2, hcf, hcb2, hcfC⟩ := cutF B l.length cb (m : Int) m rfl (by omega) hc
  rw [show l.length - m = 16 from by omega] at hcf hcb2 hcfC
  have HT := Lib.hid (fun W hW => hctC W l hW)
  have HF := Lib.hid (fun W hW => hcfC W l hW)
  have z1 : ¬ (l.length : Int) < 24 := by omega
  have z2 : decide ((l.length : Int) < 24) = false := decide_eq_false z1
  have z3 : ¬ (536 : Int) < (l.length : Int) := by omega
  have z4 : decide ((536 : Int) < (l.length : Int)) = false := decide_eq_false z3
  have z5 : (l.length : Int) ≤ 536 := by omega
  have z6 : (24 : Int) ≤ (l.length : Int) := by omega
  have z7 : (0 : Int) ≤ (m : Int) := by omega
  rw [hm] at hr
  have hdl : (l.drop m).length = 16 := by rw [List.length_drop]; omega
  have htl : (l.take m).length = m := by rw [List.length_take]; omega
  have HDl := Lib.hid hdl
  have HTl := Lib.hid htl
  have hrd : decide (8 ≤ (l.drop m).length ∧ (l.drop m).length ≤ 32 ∧ (markN (markK secret) (l.take m)).take (l.drop m).length = l.drop m) = false := hr
  rw [hdl] at hrd
  have hne : (markN (markK secret) (l.take m)).take 16 ≠ l.drop m := fun e => of_decide_eq_false hrd ⟨by decide, by decide, e⟩
  have hsn := str_neS (take_lt 16 (markN_lt (markK secret) (l.take m))) (drop_lt m hl8) hne
  obtain ⟨v1, v2⟩ := hsn
  have HV := Lib.hid (And.intro v1 v2)
  clear hne v1 v2
  have HMt := Lib.hid (show ((markN (markK secret) (l.take m)).take 16).length = 16 from by rw [List.length_take, markN_len]; rfl)
  generalize markK secret = KM at *
  have hcv := fun (w : World) (C : Array Value) (n c : Nat) => cv_at w C n c w.heap.size rfl
  clear hA ha hal hB hc hl8 h24 h536 hr hm hctC hcfC hcb2 hdl htl hrd
  go_enter Try.func34, Try.ntmps34
  go_wp2_with fail
  refine (consts_any w).mono ?_
  rintro e w2 ⟨v1, v2, rfl, hk, hs, hb⟩
  obtain ⟨A1, c1, hv1, hc1, hC1⟩ := Kd.R_reads hk
  obtain ⟨A2, c2, hv2, hc2, hC2⟩ := Kd.R_reads hs
  have hv1' : v1 = .slice A1 64 c1 := hv1
  have hv2' : v2 = .slice A2 8 c2 := hv2
  subst hv1'
  subst hv2'
  have HKc := Lib.hid (show (Kd.int .u32).C w2 A1 64 (nat H.kN) from hC1)
  have HSc := Lib.hid (show (Kd.int .u32).C w2 A2 8 (nat H.begN) from hC2)
  have HB2 := Lib.hid hb
  clear hk hs hb hv1 hv2 hc1 hc2 hC1 hC2
  go_wp2_with fail
  refine calls_at fun Xm hXm => ?_
  have hlm := C_lit [109, 97, 114, 107, 0, 0] w2 (6, 7) (by decide)
  have hbxm : Below w2.heap.size w2 Xm := by rw [hXm]; exact (Below.refl _ _).alloc (Nat.le_refl _) _
  have hwxm := HB2.out.trans (hbxm.mono HB2.out.size)
  have h2xm : Below w2.heap.size w2 Xm := (Below.refl _ _).trans (hbxm.mono (Nat.le_refl _))
  have hq := rmac_any secret [109, 97, 114, 107, 0, 0] A1 A2 A (some ⟨w2.heap.size, 0, none⟩) c1 c2 ca 6 Xm (Kd.C_below HKc.out h2xm) (Kd.C_below HSc.out h2xm) (Kd.C_below HA.out hwxm) HA8.out HAl.out (by rw [hXm]; exact hlm) (by decide) (by decide)
  have HQ := Lib.hid hq
  have HWx := Lib.hid hwxm
  have H2x := Lib.hid h2xm
  have HXm := Lib.hid hbxm
  clear hXm hlm hbxm hwxm h2xm hq
  refine HQ.out.mono ?_
  rintro e w3 ⟨vm, rfl, hrm, hbm⟩
  obtain ⟨Am, cm, hvm, hcm, hCm⟩ := Kd.R_reads hrm
  rw [nat_length, markN_len] at hvm hcm hCm
  subst hvm
  obtain ⟨hctm, hCtm⟩ := cutT Am 32 cm 16 16 rfl (by decide) hcm
  have HCm := Lib.hid (show (Kd.int .u8).C w3 Am 16 (nat ((markN secret [109, 97, 114, 107, 0, 0]).take 16)) from hCtm w3 _ hCm)
  have HBom := Lib.hid (HWx.out.trans (hbm.mono HWx.out.size))
  have H2om := Lib.hid (H2x.out.trans (hbm.mono H2x.out.size))
  have HStm := Lib.hid (HXm.out.trans (hbm.mono HXm.out.size))
  clear hrm hbm hcm hCm hCtm HQ HWx H2x HXm
  have HC4 := Lib.hid (show (Kd.int .u8).C w3 Am 16 (nat KM) from by rw [← HMk.out]; exact HCm.out)
  clear HCm HMk HStm
  go_wp2_with fail
  have q2 : ∀ x : Q.GW w3.drew w3.heap.size none, (convert 41 9 (.slice B2 16 cb2)).run Try.prog x.w = .ok (.string (strOfNums (nat (l.drop m)))) x.w := fun x => strS HDl.out (HF.out _ (Kd.C_below HB.out (HBom.out.drew.trans ((Q.GW.below (W := w3.drew) x).mono HBom.out.size))))
  refine Q.wp_region_segs none [([0, 1, 2, 3, 7, 8, 9, 10, 11, 12], some 4), ([5, 6, 13], none)] (by kernel_rfl) (by kernel_rfl) (by kernel_rfl) (by kernel_rfl) ?_
  dsimp only [Q.wpSegs, Q.picks, Q.pick]
  repeat (go_big_quiet_step (fail))
  refine wpQuiet_nil ?_
  clear q2
  have hq := rmac_any KM (l.take m) A1 A2 Am B c1 c2 cm cb w3.drew (Kd.C_below HKc.out H2om.out.drew) (Kd.C_below HSc.out H2om.out.drew) (by rw [HMl.out]; exact Kd.C_below HC4.out (stay0 w3)) HM8.out (by rw [HMl.out]; decide) (by rw [HTl.out]; exact HT.out _ (Kd.C_below HB.out HBom.out.drew)) (take_lt _ HL8.out) (by rw [HTl.out]; have := HL.out; omega)
  rw [HMl.out, HTl.out] at hq
  have HQ := Lib.hid hq
  clear hq
  go_wp2_with fail
  refine HQ.out.mono ?_
  rintro e w5 ⟨v5, rfl, hr5, hb5⟩
  obtain ⟨A5, c5, hv5, hc5, hC5⟩ := Kd.R_reads hr5
  rw [nat_length, markN_len] at hv5 hc5 hC5
  subst hv5
  obtain ⟨hct5, hCt5⟩ := cutT A5 32 c5 16 16 rfl (by decide) hc5
  have HC5 := Lib.hid (hCt5 w5 _ hC5)
  have HB5 := Lib.hid (HBom.out.drew.trans (hb5.mono HBom.out.size))
  have H25 := Lib.hid (H2om.out.drew.trans (hb5.mono H2om.out.size))
  have Hev := Lib.hid hb5
  clear hr5 hb5 hc5 hC5 hCt5 HQ
  go_wp2_with fail
  refine Q.ev_done Hev.out (Nat.le_refl _) ?_
  have q1 : ∀ x : Q.GW w5 w5.heap.size none, (convert 41 9 (.slice A5 16 c5)).run Try.prog x.w = .ok (.string (strOfNums (nat ((markN KM (l.take m)).take 16)))) x.w := fun x => strS HMt.out (Kd.C_below HC5.out x.below)
  obtain ⟨v1, v2⟩ := HV.out
  repeat (go_big_quiet_step (fail))
  refine wpQuiet_nil ?_
  clear q1 hct5
  refine NoPanic.normal ?_
  go_wp2_with fail
  exact bodyPost_ret (v := .tuple #[.int .u64 0, .slice none 0 0, .int .i64 20]) (by simp [results, Try.results34]) rfl ⟨none, 0, rfl, C_nothing _, HB5.out⟩
set_option maxRecDepth 100000 in
set_option maxHeartbeats 12800000 in
theorem ropen_side (secret l : List Nat) (A B : Option Addr) (ca cb side s2 n : Nat) (w : World) (hA : (Kd.int .u8).C w A secret.length (nat secret)) (ha : ∀ x ∈ secret, x < 256) (hal : secret.length ≤ 100000) (hB : (Kd.int .u8).C w B l.length (nat l)) (hc : l.length ≤ cb) (hl8 : ∀ x ∈ l, x < 256) (h24 : 24 ≤ l.length) (h536 : l.length ≤ 536) (hr : rightN (markK secret) (l.drop (l.length - 16)) (l.take (l.length - 16)) = true) (hs2 : s2 = 0 ∨ s2 = 1) (hn : n ≤ 9223372036854775807) (hb : ∀ k, k < 8 → l.getD k 0 = (be8 (numN s2 n)).getD k 0) (hcn : n = 0 ∨ s2 = side) :
    Calls Try.prog 34 #[.slice A secret.length ca, .int .i64 (side : Int), .slice B l.length cb] w (O3 0 [] 21 w) := by
  have HA := Lib.hid hA
  have HA8 := Lib.hid ha
  have HAl := Lib.hid hal
  have HB := Lib.hid hB
  have HL8 := Lib.hid hl8
  have HMk := Lib.hid (show (markN secret [109, 97, 114, 107, 0, 0]).take 16 = markK secret from rfl)
  have HMl := Lib.hid (show (markK secret).length = 16 from drvN_len _ _ _)
  have HM8 := Lib.hid (show ∀ x ∈ markK secret, x < 256 from drvN_lt _ _ _)
  have HHk := Lib.hid (show (markN secret [104, 105, 100, 101, 0, 0]).take 16 = hideK secret from rfl)
  have HHl := Lib.hid (show (hideK secret).length = 16 from drvN_len _ _ _)
  have HH8 := Lib.hid (show ∀ x ∈ hideK secret, x < 256 from drvN_lt _ _ _)
  have HBy := Lib.hid hb
  have hN : numN s2 n < 2 ^ 64 := by unfold numN; rcases hs2 with rfl | rfl <;> omega
  have hNv : numN s2 n = s2 * 9223372036854775808 + n := rfl
  obtain ⟨N, hNN⟩ : ∃ N, numN s2 n = N := ⟨_, rfl⟩
  rw [hNN] at HBy hN hNv
  have HN := Lib.hid hN
  have HNv := Lib.hid hNv
  have HNb := Lib.hid hn
  have HS2 := Lib.hid hs2
  have HCn := Lib.hid hcn
  have HNe := Lib.hid hNN
  obtain ⟨m, hm⟩ : ∃ m, l.length - 16 = m := ⟨_, rfl⟩
  have HL := Lib.hid (show l.length = m + 16 ∧ 8 ≤ m ∧ m ≤ 520 ∧ m + 16 ≤ cb from by omega)
  have zm : (l.length : Int) - 16 = (m : Int) := by omega
  obtain ⟨hct, hctC⟩ := cutT B l.length cb (m : Int) m rfl (by omega) hc
  obtain ⟨B2, cb2, hcf, hcb2, hcfC⟩ := cutF B l.length cb (m : Int) m rfl (by omega) hc
  rw [show l.length - m = 16 from by omega] at hcf hcb2 hcfC
  have HT := Lib.hid (fun W hW => hctC W l hW)
  have HF := Lib.hid (fun W hW => hcfC W l hW)
  have z1 : ¬ (l.length : Int) < 24 := by omega
  have z2 : decide ((l.length : Int) < 24) = false := decide_eq_false z1
  have z3 : ¬ (536 : Int) < (l.length : Int) := by omega
  have z4 : decide ((536 : Int) < (l.length : Int)) = false := decide_eq_false z3
  have z5 : (l.length : Int) ≤ 536 := by omega
  have z6 : (24 : Int) ≤ (l.length : Int) := by omega
  have z7 : (0 : Int) ≤ (m : Int) := by omega
  rw [hm] at hr
  have hdl : (l.drop m).length = 16 := by rw [List.length_drop]; omega
  have htl : (l.take m).length = m := by rw [List.length_take]; omega
  have HDl := Lib.hid hdl
  have HTl := Lib.hid htl
  have hrd : decide (8 ≤ (l.drop m).length ∧ (l.drop m).length ≤ 32 ∧ (markN (markK secret) (l.take m)).take (l.drop m).length = l.drop m) = true := hr
  rw [hdl] at hrd
  have HEq := Lib.hid (of_decide_eq_true hrd).2.2
  have HMt := Lib.hid (show ((markN (markK secret) (l.take m)).take 16).length = 16 from by rw [List.length_take, markN_len]; rfl)
  generalize hideK secret = KH at *
  generalize markK secret = KM at *
  have hcv := fun (w : World) (C : Array Value) (n c : Nat) => cv_at w C n c w.heap.size rfl
  clear hA ha hal hB hc hl8 h24 h536 hr hm hctC hcfC hcb2 hdl htl hrd hs2 hn hb hcn hN hNv hNN
  go_enter Try.func34, Try.ntmps34
  go_wp2_with fail
  refine (consts_any w).mono ?_
  rintro e w2 ⟨v1, v2, rfl, hk, hs, hb⟩
  obtain ⟨A1, c1, hv1, hc1, hC1⟩ := Kd.R_reads hk
  obtain ⟨A2, c2, hv2, hc2, hC2⟩ := Kd.R_reads hs
  have hv1' : v1 = .slice A1 64 c1 := hv1
  have hv2' : v2 = .slice A2 8 c2 := hv2
  subst hv1'
  subst hv2'
  have HKc := Lib.hid (show (Kd.int .u32).C w2 A1 64 (nat H.kN) from hC1)
  have HSc := Lib.hid (show (Kd.int .u32).C w2 A2 8 (nat H.begN) from hC2)
  have HB2 := Lib.hid hb
  clear hk hs hb hv1 hv2 hc1 hc2 hC1 hC2
  go_wp2_with fail
  refine calls_at fun Xm hXm => ?_
  have hlm := C_lit [109, 97, 114, 107, 0, 0] w2 (6, 7) (by decide)
  have hbxm : Below w2.heap.size w2 Xm := by rw [hXm]; exact (Below.refl _ _).alloc (Nat.le_refl _) _
  have hwxm := HB2.out.trans (hbxm.mono HB2.out.size)
  have h2xm : Below w2.heap.size w2 Xm := (Below.refl _ _).trans (hbxm.mono (Nat.le_refl _))
  have hq := rmac_any secret [109, 97, 114, 107, 0, 0] A1 A2 A (some ⟨w2.heap.size, 0, none⟩) c1 c2 ca 6 Xm (Kd.C_below HKc.out h2xm) (Kd.C_below HSc.out h2xm) (Kd.C_below HA.out hwxm) HA8.out HAl.out (by rw [hXm]; exact hlm) (by decide) (by decide)
  have HQ := Lib.hid hq
  have HWx := Lib.hid hwxm
  have H2x := Lib.hid h2xm
  have HXm := Lib.hid hbxm
  clear hXm hlm hbxm hwxm h2xm hq
  refine HQ.out.mono ?_
  rintro e w3 ⟨vm, rfl, hrm, hbm⟩
  obtain ⟨Am, cm, hvm, hcm, hCm⟩ := Kd.R_reads hrm
  rw [nat_length, markN_len] at hvm hcm hCm
  subst hvm
  obtain ⟨hctm, hCtm⟩ := cutT Am 32 cm 16 16 rfl (by decide) hcm
  have HCm := Lib.hid (show (Kd.int .u8).C w3 Am 16 (nat ((markN secret [109, 97, 114, 107, 0, 0]).take 16)) from hCtm w3 _ hCm)
  have HBom := Lib.hid (HWx.out.trans (hbm.mono HWx.out.size))
  have H2om := Lib.hid (H2x.out.trans (hbm.mono H2x.out.size))
  have HStm := Lib.hid (HXm.out.trans (hbm.mono HXm.out.size))
  clear hrm hbm hcm hCm hCtm HQ HWx H2x HXm
  have HC4 := Lib.hid (show (Kd.int .u8).C w3 Am 16 (nat KM) from by rw [← HMk.out]; exact HCm.out)
  clear HCm HMk HStm hcv
  go_wp2_with fail
  have q2 : ∀ x : Q.GW w3.drew w3.heap.size none, (convert 41 9 (.slice B2 16 cb2)).run Try.prog x.w = .ok (.string (strOfNums (nat (l.drop m)))) x.w := fun x => strS HDl.out (HF.out _ (Kd.C_below HB.out (HBom.out.drew.trans ((Q.GW.below (W := w3.drew) x).mono HBom.out.size))))
  refine Q.wp_region_segs none [([0, 1, 2, 3, 7, 8, 9, 10, 11, 12], some 4), ([5, 6, 13], none)] (by kernel_rfl) (by kernel_rfl) (by kernel_rfl) (by kernel_rfl) ?_
  dsimp only [Q.wpSegs, Q.picks, Q.pick]
  repeat (go_big_quiet_step (fail))
  refine wpQuiet_nil ?_
  clear q2
  have hq := rmac_any KM (l.take m) A1 A2 Am B c1 c2 cm cb w3.drew (Kd.C_below HKc.out H2om.out.drew) (Kd.C_below HSc.out H2om.out.drew) (by rw [HMl.out]; exact Kd.C_below HC4.out (stay0 w3)) HM8.out (by rw [HMl.out]; decide) (by rw [HTl.out]; exact HT.out _ (Kd.C_below HB.out HBom.out.drew)) (take_lt _ HL8.out) (by rw [HTl.out]; have := HL.out; omega)
  rw [HMl.out, HTl.out] at hq
  have HQ := Lib.hid hq
  clear hq
  go_wp2_with fail
  refine HQ.out.mono ?_
  rintro e w5 ⟨v5, rfl, hr5, hb5⟩
  obtain ⟨A5, c5, hv5, hc5, hC5⟩ := Kd.R_reads hr5
  rw [nat_length, markN_len] at hv5 hc5 hC5
  subst hv5
  obtain ⟨hct5, hCt5⟩ := cutT A5 32 c5 16 16 rfl (by decide) hc5
  have HC5 := Lib.hid (hCt5 w5 _ hC5)
  have HB5 := Lib.hid (HBom.out.drew.trans (hb5.mono HBom.out.size))
  have H25 := Lib.hid (H2om.out.drew.trans (hb5.mono H2om.out.size))
  have Hev := Lib.hid hb5
  clear hr5 hb5 hc5 hC5 hCt5 HQ
  go_wp2_with fail
  refine Q.ev_done Hev.out (Nat.le_refl _) ?_
  have q1 : ∀ x : Q.GW w5 w5.heap.size none, (convert 41 9 (.slice A5 16 c5)).run Try.prog x.w = .ok (.string (strOfNums (nat ((markN KM (l.take m)).take 16)))) x.w := fun x => strS HMt.out (Kd.C_below HC5.out x.below)
  rw [HEq.out] at q1
  repeat (go_big_quiet_step (fail))
  refine wpQuiet_nil ?_
  clear q1 hct5
  refine NoPanic.normal ?_
  obtain ⟨ba, oa, rfl, hba, hca⟩ := B_at HB.out (by have := HL.out; omega)
  have HCa := Lib.hid hca
  have HBa := Lib.hid hba
  clear hba hca HC5 Hev
  go_wp2_with fail
  go_loopg [13, 14] 9 (fun g v13 v14 w' => ∃ i : Nat, v14 = .int .i64 (i : Int) ∧ v13 = .int .u64 (hdN N i : Nat) ∧ Hid (i ≤ 8 ∧ 8 < g + i) ∧ Hid (Below w5.heap.size w5 w'))
  case atStart => exact ⟨0, rfl, by rw [hd_zero HN.out]; rfl, Lib.hid ⟨by omega, by omega⟩, Lib.hid (Below.refl _ _)⟩
  case round =>
    obtain ⟨k, rfl, rfl, HJ, HBr⟩ := hrel
    cases gk with
    | zero => have := HJ.out; omega
    | succ g1 =>
      by_cases hk : k < 8
      · have HJ' := Lib.hid (show k < 8 ∧ 8 < (g1 + 1) + k from ⟨hk, HJ.out.2⟩)
        have x0 : (k : Int) < 8 := by omega
        have x1 : (0 : Int) ≤ (k : Int) := by omega
        have hbw := HB5.out.trans (HBr.out.mono HB5.out.size)
        have c1 := (hbw.cell (p := ⟨ba, oa + k, none⟩) HBa.out).trans (HCa.out k (by have := HL.out; omega))
        have hlt := hd_lt HN.out hk
        have hst := hd_step (N := N) hk
        rw [HBy.out k hk] at c1
        have hy : (be8 N).getD k 0 < 256 := be8_lt N _ (by rw [List.getD_eq_getElem?_getD, List.getElem?_eq_getElem (by rw [be8_len]; exact hk)]; exact List.getElem_mem _)
        obtain ⟨y, hyy⟩ : ∃ y, (be8 N).getD k 0 = y := ⟨_, rfl⟩
        obtain ⟨v, hvv⟩ : ∃ v, hdN N k = v := ⟨_, rfl⟩
        obtain ⟨v', hvv'⟩ : ∃ v, hdN N (k + 1) = v := ⟨_, rfl⟩
        rw [hyy] at c1 hst hy
        rw [hvv] at hst hlt
        rw [hvv'] at hst
        obtain ⟨u, hu⟩ : ∃ u, 256 * v = u := ⟨_, rfl⟩
        have e1 : (256 : Int) * (v : Int) = (u : Int) := by omega
        have e2 : (u : Int) + (y : Int) = (v' : Int) := by omega
        have x2 : (v : Int) < 72057594037927936 := by omega
        have x3 : (0 : Int) ≤ (v : Int) := by omega
        have x4 : (y : Int) < 256 := by omega
        have x5 : (0 : Int) ≤ (y : Int) := by omega
        have x6 : (u : Int) ≤ 18446744073709551360 := by omega
        have x7 : (0 : Int) ≤ (u : Int) := by omega
        have e3 : IntKind.u64.wrap ((256 : Int) * (v : Int)) = (u : Int) := by rw [e1]; exact wraps_u64 _ (by omega) (by omega)
        have e4 : IntKind.u64.wrap ((u : Int) + (y : Int)) = (v' : Int) := by rw [e2]; exact wraps_u64 _ (by omega) (by omega)
        rw [hvv]
        have HV := Lib.hid hvv'
        clear hyy hvv hvv' hst hlt hy hk HJ hbw hu
        go_wp2_with fail
        clear c1 e1 e2 e3 e4
        go_roundg g1
        case measure => have := HJ'.out; omega
        case rel => exact ⟨k + 1, by go_num, by rw [HV.out], Lib.hid (by have := HJ'.out; omega), HBr⟩
      · obtain rfl : k = 8 := by have := HJ.out; omega
        rw [hd_all]
        have HBw := Lib.hid (HB5.out.trans (HBr.out.mono HB5.out.size))
        have H2w := Lib.hid (H25.out.trans (HBr.out.mono H25.out.size))
        have hNlt := HN.out
        have hNv := HNv.out
        have hnb := HNb.out
        clear hk HJ HCa HBy
        rcases HS2.out with rfl | rfl
        · have y0 : (N : Int) % 9223372036854775808 = (n : Int) := by omega
          have y1 : ¬ (n : Int) < (N : Int) := by omega
          have y2 : decide ((n : Int) < (N : Int)) = false := decide_eq_false y1
          have y3 : decide (n < N) = false := decide_eq_false (by omega)
          have y4 : (0 : Int) ≤ (N : Int) := by omega
          have y5 : (N : Int) < 18446744073709551616 := by omega
          have y6 : (0 : Int) ≤ (n : Int) := by omega
          by_cases hn0 : n = 0
          · have y7 : ((n : Int) == 0) = true := by rw [beq_iff_eq]; omega
            have y8 : (n == 0) = true := by rw [beq_iff_eq]; exact hn0
            clear hNlt hNv hn0
            go_wp2_with fail
            exact bodyPost_ret (v := .tuple #[.int .u64 0, .slice none 0 0, .int .i64 21]) (by simp [results, Try.results34]) rfl ⟨none, 0, rfl, C_nothing _, HBw.out⟩
          · have y7 : ((n : Int) == 0) = false := by rw [beq_eq_false_iff_ne]; omega
            have y8 : (n == 0) = false := by rw [beq_eq_false_iff_ne]; exact hn0
            have y9 : ((0 : Int) == (side : Int)) = true := by rw [beq_iff_eq]; have := HCn.out; omega
            clear hNlt hNv hn0
            go_wp2_with fail
            exact bodyPost_ret (v := .tuple #[.int .u64 0, .slice none 0 0, .int .i64 21]) (by simp [results, Try.results34]) rfl ⟨none, 0, rfl, C_nothing _, HBw.out⟩
        · have y0 : (N : Int) % 9223372036854775808 = (n : Int) := by omega
          have y1 : (n : Int) < (N : Int) := by omega
          have y2 : decide ((n : Int) < (N : Int)) = true := decide_eq_true y1
          have y3 : decide (n < N) = true := decide_eq_true (by omega)
          have y4 : (0 : Int) ≤ (N : Int) := by omega
          have y5 : (N : Int) < 18446744073709551616 := by omega
          have y6 : (0 : Int) ≤ (n : Int) := by omega
          by_cases hn0 : n = 0
          · have y7 : ((n : Int) == 0) = true := by rw [beq_iff_eq]; omega
            have y8 : (n == 0) = true := by rw [beq_iff_eq]; exact hn0
            clear hNlt hNv hn0
            go_wp2_with fail
            exact bodyPost_ret (v := .tuple #[.int .u64 0, .slice none 0 0, .int .i64 21]) (by simp [results, Try.results34]) rfl ⟨none, 0, rfl, C_nothing _, HBw.out⟩
          · have y7 : ((n : Int) == 0) = false := by rw [beq_eq_false_iff_ne]; omega
            have y8 : (n == 0) = false := by rw [beq_eq_false_iff_ne]; exact hn0
            have y9 : ((1 : Int) == (side : Int)) = true := by rw [beq_iff_eq]; have := HCn.out; omega
            clear hNlt hNv hn0
            go_wp2_with fail
            exact bodyPost_ret (v := .tuple #[.int .u64 0, .slice none 0 0, .int .i64 21]) (by simp [results, Try.results34]) rfl ⟨none, 0, rfl, C_nothing _, HBw.out⟩
set_option maxRecDepth 100000 in
set_option maxHeartbeats 12800000 in
theorem ropen_ok (secret l : List Nat) (A B : Option Addr) (ca cb side s2 n : Nat) (w : World) (hA : (Kd.int .u8).C w A secret.length (nat secret)) (ha : ∀ x ∈ secret, x < 256) (hal : secret.length ≤ 100000) (hB : (Kd.int .u8).C w B l.length (nat l)) (hc : l.length ≤ cb) (hl8 : ∀ x ∈ l, x < 256) (h24 : 24 ≤ l.length) (h536 : l.length ≤ 536) (hr : rightN (markK secret) (l.drop (l.length - 16)) (l.take (l.length - 16)) = true) (hs2 : s2 = 0 ∨ s2 = 1) (hn : n ≤ 9223372036854775807) (hb : ∀ k, k < 8 → l.getD k 0 = (be8 (numN s2 n)).getD k 0) (hcn : n ≠ 0 ∧ s2 ≠ side) :
    Calls Try.prog 34 #[.slice A secret.length ca, .int .i64 (side : Int), .slice B l.length cb] w (O3 n (hideN (hideK secret) (numN s2 n) ((l.take (l.length - 16)).drop 8)) 0 w) := by
  have HA := Lib.hid hA
  have HA8 := Lib.hid ha
  have HAl := Lib.hid hal
  have HB := Lib.hid hB
  have HL8 := Lib.hid hl8
  have HMk := Lib.hid (show (markN secret [109, 97, 114, 107, 0, 0]).take 16 = markK secret from rfl)
  have HMl := Lib.hid (show (markK secret).length = 16 from drvN_len _ _ _)
  have HM8 := Lib.hid (show ∀ x ∈ markK secret, x < 256 from drvN_lt _ _ _)
  have HHk := Lib.hid (show (markN secret [104, 105, 100, 101, 0, 0]).take 16 = hideK secret from rfl)
  have HHl := Lib.hid (show (hideK secret).length = 16 from drvN_len _ _ _)
  have HH8 := Lib.hid (show ∀ x ∈ hideK secret, x < 256 from drvN_lt _ _ _)
  have HBy := Lib.hid hb
  have hN : numN s2 n < 2 ^ 64 := by unfold numN; rcases hs2 with rfl | rfl <;> omega
  have hNv : numN s2 n = s2 * 9223372036854775808 + n := rfl
  obtain ⟨N, hNN⟩ : ∃ N, numN s2 n = N := ⟨_, rfl⟩
  rw [hNN] at HBy hN hNv
  have HN := Lib.hid hN
  have HNv := Lib.hid hNv
  have HNb := Lib.hid hn
  have HS2 := Lib.hid hs2
  have HCn := Lib.hid hcn
  have HNe := Lib.hid hNN
  obtain ⟨m, hm⟩ : ∃ m, l.length - 16 = m := ⟨_, rfl⟩
  have HL := Lib.hid (show l.length = m + 16 ∧ 8 ≤ m ∧ m ≤ 520 ∧ m + 16 ≤ cb from by omega)
  have zm : (l.length : Int) - 16 = (m : Int) := by omega
  obtain ⟨hct, hctC⟩ := cutT B l.length cb (m : Int) m rfl (by omega) hc
  obtain ⟨B2, cb2, hcf, hcb2, hcfC⟩ := cutF B l.length cb (m : Int) m rfl (by omega) hc
  rw [show l.length - m = 16 from by omega] at hcf hcb2 hcfC
  have HT := Lib.hid (fun W hW => hctC W l hW)
  have HF := Lib.hid (fun W hW => hcfC W l hW)
  have z1 : ¬ (l.length : Int) < 24 := by omega
  have z2 : decide ((l.length : Int) < 24) = false := decide_eq_false z1
  have z3 : ¬ (536 : Int) < (l.length : Int) := by omega
  have z4 : decide ((536 : Int) < (l.length : Int)) = false := decide_eq_false z3
  have z5 : (l.length : Int) ≤ 536 := by omega
  have z6 : (24 : Int) ≤ (l.length : Int) := by omega
  have z7 : (0 : Int) ≤ (m : Int) := by omega
  rw [hm] at hr ⊢
  have hdl : (l.drop m).length = 16 := by rw [List.length_drop]; omega
  have htl : (l.take m).length = m := by rw [List.length_take]; omega
  have HDl := Lib.hid hdl
  have HTl := Lib.hid htl
  have hrd : decide (8 ≤ (l.drop m).length ∧ (l.drop m).length ≤ 32 ∧ (markN (markK secret) (l.take m)).take (l.drop m).length = l.drop m) = true := hr
  rw [hdl] at hrd
  have HEq := Lib.hid (of_decide_eq_true hrd).2.2
  have HMt := Lib.hid (show ((markN (markK secret) (l.take m)).take 16).length = 16 from by rw [List.length_take, markN_len]; rfl)
  obtain ⟨RL, hRL⟩ : ∃ R, hideN (hideK secret) (numN s2 n) ((l.take m).drop 8) = R := ⟨_, rfl⟩
  rw [hRL]
  rw [hNN] at hRL
  have HRL := Lib.hid hRL
  clear hRL
  generalize hideK secret = KH at *
  generalize markK secret = KM at *
  have hcv := fun (w : World) (C : Array Value) (n c : Nat) => cv_at w C n c w.heap.size rfl
  clear hA ha hal hB hc hl8 h24 h536 hr hm hctC hcfC hcb2 hdl htl hrd hs2 hn hb hcn hN hNv hNN
  go_enter Try.func34, Try.ntmps34
  go_wp2_with fail
  refine (consts_any w).mono ?_
  rintro e w2 ⟨v1, v2, rfl, hk, hs, hb⟩
  obtain ⟨A1, c1, hv1, hc1, hC1⟩ := Kd.R_reads hk
  obtain ⟨A2, c2, hv2, hc2, hC2⟩ := Kd.R_reads hs
  have hv1' : v1 = .slice A1 64 c1 := hv1
  have hv2' : v2 = .slice A2 8 c2 := hv2
  subst hv1'
  subst hv2'
  have HKc := Lib.hid (show (Kd.int .u32).C w2 A1 64 (nat H.kN) from hC1)
  have HSc := Lib.hid (show (Kd.int .u32).C w2 A2 8 (nat H.begN) from hC2)
  have HB2 := Lib.hid hb
  clear hk hs hb hv1 hv2 hc1 hc2 hC1 hC2
  go_wp2_with fail
  refine calls_at fun Xm hXm => ?_
  have hlm := C_lit [109, 97, 114, 107, 0, 0] w2 (6, 7) (by decide)
  have hbxm : Below w2.heap.size w2 Xm := by rw [hXm]; exact (Below.refl _ _).alloc (Nat.le_refl _) _
  have hwxm := HB2.out.trans (hbxm.mono HB2.out.size)
  have h2xm : Below w2.heap.size w2 Xm := (Below.refl _ _).trans (hbxm.mono (Nat.le_refl _))
  have hq := rmac_any secret [109, 97, 114, 107, 0, 0] A1 A2 A (some ⟨w2.heap.size, 0, none⟩) c1 c2 ca 6 Xm (Kd.C_below HKc.out h2xm) (Kd.C_below HSc.out h2xm) (Kd.C_below HA.out hwxm) HA8.out HAl.out (by rw [hXm]; exact hlm) (by decide) (by decide)
  have HQ := Lib.hid hq
  have HWx := Lib.hid hwxm
  have H2x := Lib.hid h2xm
  have HXm := Lib.hid hbxm
  clear hXm hlm hbxm hwxm h2xm hq
  refine HQ.out.mono ?_
  rintro e w3 ⟨vm, rfl, hrm, hbm⟩
  obtain ⟨Am, cm, hvm, hcm, hCm⟩ := Kd.R_reads hrm
  rw [nat_length, markN_len] at hvm hcm hCm
  subst hvm
  obtain ⟨hctm, hCtm⟩ := cutT Am 32 cm 16 16 rfl (by decide) hcm
  have HCm := Lib.hid (show (Kd.int .u8).C w3 Am 16 (nat ((markN secret [109, 97, 114, 107, 0, 0]).take 16)) from hCtm w3 _ hCm)
  have HBom := Lib.hid (HWx.out.trans (hbm.mono HWx.out.size))
  have H2om := Lib.hid (H2x.out.trans (hbm.mono H2x.out.size))
  have HStm := Lib.hid (HXm.out.trans (hbm.mono HXm.out.size))
  clear hrm hbm hcm hCm hCtm HQ HWx H2x HXm
  have HC4 := Lib.hid (show (Kd.int .u8).C w3 Am 16 (nat KM) from by rw [← HMk.out]; exact HCm.out)
  clear HCm HMk HStm hcv
  go_wp2_with fail
  have q2 : ∀ x : Q.GW w3.drew w3.heap.size none, (convert 41 9 (.slice B2 16 cb2)).run Try.prog x.w = .ok (.string (strOfNums (nat (l.drop m)))) x.w := fun x => strS HDl.out (HF.out _ (Kd.C_below HB.out (HBom.out.drew.trans ((Q.GW.below (W := w3.drew) x).mono HBom.out.size))))
  refine Q.wp_region_segs none [([0, 1, 2, 3, 7, 8, 9, 10, 11, 12], some 4), ([5, 6, 13], none)] (by kernel_rfl) (by kernel_rfl) (by kernel_rfl) (by kernel_rfl) ?_
  dsimp only [Q.wpSegs, Q.picks, Q.pick]
  repeat (go_big_quiet_step (fail))
  refine wpQuiet_nil ?_
  clear q2
  have hq := rmac_any KM (l.take m) A1 A2 Am B c1 c2 cm cb w3.drew (Kd.C_below HKc.out H2om.out.drew) (Kd.C_below HSc.out H2om.out.drew) (by rw [HMl.out]; exact Kd.C_below HC4.out (stay0 w3)) HM8.out (by rw [HMl.out]; decide) (by rw [HTl.out]; exact HT.out _ (Kd.C_below HB.out HBom.out.drew)) (take_lt _ HL8.out) (by rw [HTl.out]; have := HL.out; omega)
  rw [HMl.out, HTl.out] at hq
  have HQ := Lib.hid hq
  clear hq
  go_wp2_with fail
  refine HQ.out.mono ?_
  rintro e w5 ⟨v5, rfl, hr5, hb5⟩
  obtain ⟨A5, c5, hv5, hc5, hC5⟩ := Kd.R_reads hr5
  rw [nat_length, markN_len] at hv5 hc5 hC5
  subst hv5
  obtain ⟨hct5, hCt5⟩ := cutT A5 32 c5 16 16 rfl (by decide) hc5
  have HC5 := Lib.hid (hCt5 w5 _ hC5)
  have HB5 := Lib.hid (HBom.out.drew.trans (hb5.mono HBom.out.size))
  have H25 := Lib.hid (H2om.out.drew.trans (hb5.mono H2om.out.size))
  have Hev := Lib.hid hb5
  clear hr5 hb5 hc5 hC5 hCt5 HQ
  go_wp2_with fail
  refine Q.ev_done Hev.out (Nat.le_refl _) ?_
  have q1 : ∀ x : Q.GW w5 w5.heap.size none, (convert 41 9 (.slice A5 16 c5)).run Try.prog x.w = .ok (.string (strOfNums (nat ((markN KM (l.take m)).take 16)))) x.w := fun x => strS HMt.out (Kd.C_below HC5.out x.below)
  rw [HEq.out] at q1
  repeat (go_big_quiet_step (fail))
  refine wpQuiet_nil ?_
  clear q1 hct5
  refine NoPanic.normal ?_
  obtain ⟨ba, oa, rfl, hba, hca⟩ := B_at HB.out (by have := HL.out; omega)
  have HCa := Lib.hid hca
  have HBa := Lib.hid hba
  clear hba hca HC5 Hev
  go_wp2_with fail
  go_loopg [13, 14] 9 (fun g v13 v14 w' => ∃ i : Nat, v14 = .int .i64 (i : Int) ∧ v13 = .int .u64 (hdN N i : Nat) ∧ Hid (i ≤ 8 ∧ 8 < g + i) ∧ Hid (Below w5.heap.size w5 w'))
  case atStart => exact ⟨0, rfl, by rw [hd_zero HN.out]; rfl, Lib.hid ⟨by omega, by omega⟩, Lib.hid (Below.refl _ _)⟩
  case round =>
    obtain ⟨k, rfl, rfl, HJ, HBr⟩ := hrel
    cases gk with
    | zero => have := HJ.out; omega
    | succ g1 =>
      by_cases hk : k < 8
      · have HJ' := Lib.hid (show k < 8 ∧ 8 < (g1 + 1) + k from ⟨hk, HJ.out.2⟩)
        have x0 : (k : Int) < 8 := by omega
        have x1 : (0 : Int) ≤ (k : Int) := by omega
        have hbw := HB5.out.trans (HBr.out.mono HB5.out.size)
        have c1 := (hbw.cell (p := ⟨ba, oa + k, none⟩) HBa.out).trans (HCa.out k (by have := HL.out; omega))
        have hlt := hd_lt HN.out hk
        have hst := hd_step (N := N) hk
        rw [HBy.out k hk] at c1
        have hy : (be8 N).getD k 0 < 256 := be8_lt N _ (by rw [List.getD_eq_getElem?_getD, List.getElem?_eq_getElem (by rw [be8_len]; exact hk)]; exact List.getElem_mem _)
        obtain ⟨y, hyy⟩ : ∃ y, (be8 N).getD k 0 = y := ⟨_, rfl⟩
        obtain ⟨v, hvv⟩ : ∃ v, hdN N k = v := ⟨_, rfl⟩
        obtain ⟨v', hvv'⟩ : ∃ v, hdN N (k + 1) = v := ⟨_, rfl⟩
        rw [hyy] at c1 hst hy
        rw [hvv] at hst hlt
        rw [hvv'] at hst
        obtain ⟨u, hu⟩ : ∃ u, 256 * v = u := ⟨_, rfl⟩
        have e1 : (256 : Int) * (v : Int) = (u : Int) := by omega
        have e2 : (u : Int) + (y : Int) = (v' : Int) := by omega
        have x2 : (v : Int) < 72057594037927936 := by omega
        have x3 : (0 : Int) ≤ (v : Int) := by omega
        have x4 : (y : Int) < 256 := by omega
        have x5 : (0 : Int) ≤ (y : Int) := by omega
        have x6 : (u : Int) ≤ 18446744073709551360 := by omega
        have x7 : (0 : Int) ≤ (u : Int) := by omega
        have e3 : IntKind.u64.wrap ((256 : Int) * (v : Int)) = (u : Int) := by rw [e1]; exact wraps_u64 _ (by omega) (by omega)
        have e4 : IntKind.u64.wrap ((u : Int) + (y : Int)) = (v' : Int) := by rw [e2]; exact wraps_u64 _ (by omega) (by omega)
        rw [hvv]
        have HV := Lib.hid hvv'
        clear hyy hvv hvv' hst hlt hy hk HJ hbw hu
        go_wp2_with fail
        clear c1 e1 e2 e3 e4
        go_roundg g1
        case measure => have := HJ'.out; omega
        case rel => exact ⟨k + 1, by go_num, by rw [HV.out], Lib.hid (by have := HJ'.out; omega), HBr⟩
      · obtain rfl : k = 8 := by have := HJ.out; omega
        rw [hd_all]
        have HBw := Lib.hid (HB5.out.trans (HBr.out.mono HB5.out.size))
        have H2w := Lib.hid (H25.out.trans (HBr.out.mono H25.out.size))
        have hNlt := HN.out
        have hNv := HNv.out
        have hnb := HNb.out
        clear hk HJ HCa HBy
        rcases HS2.out with rfl | rfl
        · have y0 : (N : Int) % 9223372036854775808 = (n : Int) := by omega
          have y1 : ¬ (n : Int) < (N : Int) := by omega
          have y2 : decide ((n : Int) < (N : Int)) = false := decide_eq_false y1
          have y3 : decide (n < N) = false := decide_eq_false (by omega)
          have y4 : (0 : Int) ≤ (N : Int) := by omega
          have y5 : (N : Int) < 18446744073709551616 := by omega
          have y6 : (0 : Int) ≤ (n : Int) := by omega
          have hn0 : n ≠ 0 := HCn.out.1
          have y7 : ((n : Int) == 0) = false := by rw [beq_eq_false_iff_ne]; omega
          have y8 : (n == 0) = false := by rw [beq_eq_false_iff_ne]; exact hn0
          have y9 : ((0 : Int) == (side : Int)) = false := by rw [beq_eq_false_iff_ne]; have := HCn.out.2; omega
          clear hNlt hNv hn0
          have hcv := fun (w : World) (C : Array Value) (n c : Nat) => cv_at w C n c w.heap.size rfl
          obtain ⟨wo, rfl⟩ : ∃ wo : World, wo = wr := ⟨_, rfl⟩
          go_wp2_with fail
          refine calls_at fun Xh hXh => ?_
          have hlh := C_lit [104, 105, 100, 101, 0, 0] wo (6, 7) (by decide)
          have hbxh : Below wo.heap.size wo Xh := by rw [hXh]; exact (Below.refl _ _).alloc (Nat.le_refl _) _
          have hwxh := HBw.out.trans (hbxh.mono HBw.out.size)
          have h2xh : Below w2.heap.size w2 Xh := H2w.out.trans (hbxh.mono H2w.out.size)
          have hq := rmac_any secret [104, 105, 100, 101, 0, 0] A1 A2 A (some ⟨wo.heap.size, 0, none⟩) c1 c2 ca 6 Xh (Kd.C_below HKc.out h2xh) (Kd.C_below HSc.out h2xh) (Kd.C_below HA.out hwxh) HA8.out HAl.out (by rw [hXh]; exact hlh) (by decide) (by decide)
          have HQ := Lib.hid hq
          have HWx := Lib.hid hwxh
          have H2x := Lib.hid h2xh
          have HXh := Lib.hid hbxh
          clear hXh hlh hbxh hwxh h2xh hq
          refine HQ.out.mono ?_
          rintro e w6 ⟨vh, rfl, hrh, hbh⟩
          obtain ⟨Ah, ch, hvh, hch, hCh⟩ := Kd.R_reads hrh
          rw [nat_length, markN_len] at hvh hch hCh
          subst hvh
          obtain ⟨hcth, hCth⟩ := cutT Ah 32 ch 16 16 rfl (by decide) hch
          have HCh := Lib.hid (show (Kd.int .u8).C w6 Ah 16 (nat ((markN secret [104, 105, 100, 101, 0, 0]).take 16)) from hCth w6 _ hCh)
          have HBoh := Lib.hid (HWx.out.trans (hbh.mono HWx.out.size))
          have H2oh := Lib.hid (H2x.out.trans (hbh.mono H2x.out.size))
          have HSth := Lib.hid (HXh.out.trans (hbh.mono HXh.out.size))
          clear hrh hbh hch hCh hCth HQ HWx H2x HXh
          have HC6 := Lib.hid (show (Kd.int .u8).C w6 Ah 16 (nat KH) from by rw [← HHk.out]; exact HCh.out)
          obtain ⟨B8, cb8, hcf8, hcb8, hcf8C⟩ := cutF (some ⟨ba, oa, none⟩) m cb 8 8 rfl (by have := HL.out; omega) (by have := HL.out; omega)
          have h8l : ((l.take m).drop 8).length = m - 8 := by rw [List.length_drop, HTl.out]
          have hq := rhide_any KH N ((l.take m).drop 8) Ah B8 ch cb8 w6 HC6.out HHl.out HH8.out (by have := HN.out; omega) (by rw [h8l]; exact hcf8C _ _ (HT.out _ (Kd.C_below HB.out HBoh.out))) (drop_lt _ (take_lt _ HL8.out)) (by rw [h8l]; have := HL.out; omega)
          rw [h8l, HRL.out] at hq
          have HQ := Lib.hid hq
          clear hq hcb8 hcf8C hcv HCh h8l
          go_wp2_with fail
          refine HQ.out.mono ?_
          rintro e w7 ⟨v7, rfl, hr7, hb7⟩
          obtain ⟨A7, c7, hv7, hc7, hC7⟩ := Kd.R_reads hr7
          rw [nat_length] at hv7 hC7
          subst hv7
          have HC7 := Lib.hid hC7
          have HB7 := Lib.hid (HBoh.out.trans (hb7.mono HBoh.out.size))
          clear hr7 hb7 hc7 hC7 HQ
          go_wp2_with fail
          exact bodyPost_ret (v := .tuple #[.int .u64 (n : Int), .slice A7 RL.length c7, .int .i64 0]) (by simp [results, Try.results34]) rfl ⟨A7, c7, rfl, HC7.out, HB7.out⟩
        · have y0 : (N : Int) % 9223372036854775808 = (n : Int) := by omega
          have y1 : (n : Int) < (N : Int) := by omega
          have y2 : decide ((n : Int) < (N : Int)) = true := decide_eq_true y1
          have y3 : decide (n < N) = true := decide_eq_true (by omega)
          have y4 : (0 : Int) ≤ (N : Int) := by omega
          have y5 : (N : Int) < 18446744073709551616 := by omega
          have y6 : (0 : Int) ≤ (n : Int) := by omega
          have hn0 : n ≠ 0 := HCn.out.1
          have y7 : ((n : Int) == 0) = false := by rw [beq_eq_false_iff_ne]; omega
          have y8 : (n == 0) = false := by rw [beq_eq_false_iff_ne]; exact hn0
          have y9 : ((1 : Int) == (side : Int)) = false := by rw [beq_eq_false_iff_ne]; have := HCn.out.2; omega
          clear hNlt hNv hn0
          have hcv := fun (w : World) (C : Array Value) (n c : Nat) => cv_at w C n c w.heap.size rfl
          obtain ⟨wo, rfl⟩ : ∃ wo : World, wo = wr := ⟨_, rfl⟩
          go_wp2_with fail
          refine calls_at fun Xh hXh => ?_
          have hlh := C_lit [104, 105, 100, 101, 0, 0] wo (6, 7) (by decide)
          have hbxh : Below wo.heap.size wo Xh := by rw [hXh]; exact (Below.refl _ _).alloc (Nat.le_refl _) _
          have hwxh := HBw.out.trans (hbxh.mono HBw.out.size)
          have h2xh : Below w2.heap.size w2 Xh := H2w.out.trans (hbxh.mono H2w.out.size)
          have hq := rmac_any secret [104, 105, 100, 101, 0, 0] A1 A2 A (some ⟨wo.heap.size, 0, none⟩) c1 c2 ca 6 Xh (Kd.C_below HKc.out h2xh) (Kd.C_below HSc.out h2xh) (Kd.C_below HA.out hwxh) HA8.out HAl.out (by rw [hXh]; exact hlh) (by decide) (by decide)
          have HQ := Lib.hid hq
          have HWx := Lib.hid hwxh
          have H2x := Lib.hid h2xh
          have HXh := Lib.hid hbxh
          clear hXh hlh hbxh hwxh h2xh hq
          refine HQ.out.mono ?_
          rintro e w6 ⟨vh, rfl, hrh, hbh⟩
          obtain ⟨Ah, ch, hvh, hch, hCh⟩ := Kd.R_reads hrh
          rw [nat_length, markN_len] at hvh hch hCh
          subst hvh
          obtain ⟨hcth, hCth⟩ := cutT Ah 32 ch 16 16 rfl (by decide) hch
          have HCh := Lib.hid (show (Kd.int .u8).C w6 Ah 16 (nat ((markN secret [104, 105, 100, 101, 0, 0]).take 16)) from hCth w6 _ hCh)
          have HBoh := Lib.hid (HWx.out.trans (hbh.mono HWx.out.size))
          have H2oh := Lib.hid (H2x.out.trans (hbh.mono H2x.out.size))
          have HSth := Lib.hid (HXh.out.trans (hbh.mono HXh.out.size))
          clear hrh hbh hch hCh hCth HQ HWx H2x HXh
          have HC6 := Lib.hid (show (Kd.int .u8).C w6 Ah 16 (nat KH) from by rw [← HHk.out]; exact HCh.out)
          obtain ⟨B8, cb8, hcf8, hcb8, hcf8C⟩ := cutF (some ⟨ba, oa, none⟩) m cb 8 8 rfl (by have := HL.out; omega) (by have := HL.out; omega)
          have h8l : ((l.take m).drop 8).length = m - 8 := by rw [List.length_drop, HTl.out]
          have hq := rhide_any KH N ((l.take m).drop 8) Ah B8 ch cb8 w6 HC6.out HHl.out HH8.out (by have := HN.out; omega) (by rw [h8l]; exact hcf8C _ _ (HT.out _ (Kd.C_below HB.out HBoh.out))) (drop_lt _ (take_lt _ HL8.out)) (by rw [h8l]; have := HL.out; omega)
          rw [h8l, HRL.out] at hq
          have HQ := Lib.hid hq
          clear hq hcb8 hcf8C hcv HCh h8l
          go_wp2_with fail
          refine HQ.out.mono ?_
          rintro e w7 ⟨v7, rfl, hr7, hb7⟩
          obtain ⟨A7, c7, hv7, hc7, hC7⟩ := Kd.R_reads hr7
          rw [nat_length] at hv7 hC7
          subst hv7
          have HC7 := Lib.hid hC7
          have HB7 := Lib.hid (HBoh.out.trans (hb7.mono HBoh.out.size))
          clear hr7 hb7 hc7 hC7 HQ
          go_wp2_with fail
          exact bodyPost_ret (v := .tuple #[.int .u64 (n : Int), .slice A7 RL.length c7, .int .i64 0]) (by simp [results, Try.results34]) rfl ⟨A7, c7, rfl, HC7.out, HB7.out⟩
end Go.Proofs.Ytblnclooobggnaa.Se
