/-
  sha: the document's With.
-/
import Derived.Test.YtagfplcafeblbaaHy
import Derived.Test.YtagfplcafeblbaaHw
import Derived.Test.YtagfplcafeblbaaHj
namespace Go.Proofs.Ytagfplcafeblbaa.H
open Go.RowKit Go.Proofs.Ytagfplcafeblbaa.L Go.Proofs.Ytagfplcafeblbaa.N Go.Proofs.YtagfplcafeblbaaW.PrintWords

theorem drop_cons' {l : List Nat} {k y : Nat} (h : k < l.length) (hy : l.getD k 0 = y) : nat (l.drop k) = [(y : Int)] ++ nat (l.drop (k + 1)) := by
  have e : l[k] = y := by rw [← hy]; simp [List.getD_eq_getElem?_getD, List.getElem?_eq_getElem h]
  rw [List.drop_eq_getElem_cons h, e]
  rfl
theorem take4 {l : List Nat} {n : Nat} (h : n + 4 ≤ l.length) : nat (l.take (n + 4)) = nat (l.take n) ++ nat [l.getD n 0, l.getD (n + 1) 0, l.getD (n + 2) 0, l.getD (n + 3) 0] := by
  rw [← nat_app]
  congr 1
  have e : ∀ i, i < l.length → l.take (i + 1) = l.take i ++ [l.getD i 0] := fun i hi => by
    rw [List.take_succ_eq_append_getElem hi]
    simp [List.getD_eq_getElem?_getD, List.getElem?_eq_getElem hi]
  rw [e (n + 3) (by omega), e (n + 2) (by omega), e (n + 1) (by omega), e n (by omega)]
  simp
theorem blocks_snoc (j : Nat) (s l : List Nat) : blocks (j + 1) s l = mixN (blocks j s l) ((l.drop (64 * j)).take 64) := by
  rw [blocks_add j 1 s l]
  rfl
theorem cut64 (l : List Nat) (i : Nat) : (l.take (i + 64)).drop i = (l.drop i).take 64 := by
  rw [List.drop_take, show i + 64 - i = 64 from by omega]
theorem pad_form (l : List Nat) : padN l l.length = (l ++ 128 :: List.replicate ((119 - l.length % 64) % 64) 0) ++ szN l.length := by
  unfold padN szN
  simp
set_option maxRecDepth 100000 in
set_option maxHeartbeats 12800000 in
theorem rwith_any (l : List Nat) (Al Ak As : Option Addr) (cl ck cs : Nat) (w : World) (hl : l.length ≤ 1000000) (hC : (Kd.int .u8).C w Al l.length (nat l)) (h8 : ∀ x ∈ l, x < 256) (hK : (Kd.int .u32).C w Ak 64 (nat kN)) (hS : (Kd.int .u32).C w As 8 (nat begN)) :
    Calls Try.prog 43 #[.slice Al l.length cl, .slice Ak 64 ck, .slice As 8 cs] w fun e w' => ∃ v, e = .returned v ∧ (Kd.int .u8).R 5 w' w.heap.size (fun _ => True) v (nat (shaN l)) ∧ Below w.heap.size w w' := by
  have HC := Lib.hid hC
  have HL := Lib.hid hl
  have H8 := Lib.hid h8
  have HK := Lib.hid hK
  have HS := Lib.hid hS
  have HPf := Lib.hid (pad_form l)
  have HSh := Lib.hid (rwith_eq l)
  have HSz := Lib.hid (szN_length l.length)
  have HSg := Lib.hid (fun k (h : k < 8) => szN_get l.length h)
  obtain ⟨ZZ, hZZ⟩ : ∃ Z, (119 - l.length % 64) % 64 = Z := ⟨_, rfl⟩
  have HZ := Lib.hid (show ZZ < 64 ∧ (l.length + 1 + ZZ) % 64 = 56 ∧ ∀ j, j < ZZ → (l.length + 1 + j) % 64 ≠ 56 from ⟨by omega, by omega, fun j hj => by omega⟩)
  rw [hZZ] at HPf
  have z0 : (l.length : Int) ≤ 1000000 := by omega
  clear hC hl h8 hK hS hZZ
  go_enter Try.func43, Try.ntmps43
  go_wp2_with (first
    | (at_builtin; refine appn (w0 := w) .u8 w.heap.size (.tmp 15) (.tmp 16) 22 5 1 rfl rfl Try.underlying22 info_u8 (by decide) (.slice none 0 0) [] (nat l) Al _ cl rfl rfl (Kd.R_nil _ _ _ _ _) HC.out (Below.refl _ _) (Nat.le_refl _) (by have := HL.out; simp; omega) ?_; intro v1 w2 ho2 hb2 _; (have HO2 := Lib.hid ho2); (have HB2 := Lib.hid hb2); clear ho2 hb2)
    | (at_builtin; refine app1 (w0 := w) .u8 w.heap.size (.tmp 18) (.tmp 19) 22 5 1 rfl rfl Try.underlying22 info_u8 (by decide) v1 ([] ++ nat l) 128 rfl rfl HO2.out HB2.out HB2.out.size (by have := HL.out; simp [nat_length]; omega) ?_; intro v2 w3 ho3 hb3 _; (have HO3 := Lib.hid ho3); (have HB3 := Lib.hid hb3); clear ho3 hb3))
  have HR0 := Lib.hid (show (Kd.int .u8).R 5 w3 w.heap.size (fun _ => True) v2 (nat (l ++ 128 :: List.replicate 0 0)) from by have h := HO3.out; rw [List.nil_append] at h; rw [nat_app]; exact h)
  clear HO2 HB2 HO3
  go_loopg [7] (ZZ + 1) (fun g v7 w' => ∃ j : Nat, Hid (j ≤ ZZ ∧ ZZ < g + j) ∧ Hid ((Kd.int .u8).R 5 w' w.heap.size (fun _ => True) v7 (nat (l ++ 128 :: List.replicate j 0))) ∧ Hid (Below w.heap.size w w'))
  case atStart => exact ⟨0, Lib.hid ⟨by omega, by omega⟩, HR0, HB3⟩
  case round =>
    obtain ⟨j, HJ, HR, HB⟩ := hrel
    clear HR0 HB3
    cases gk with
    | zero => have := HJ.out; omega
    | succ k =>
      have hR := HR.out
      obtain ⟨A2, c2, hv, hc2, hC2⟩ := Kd.R_reads hR
      subst hv
      obtain ⟨n, hn⟩ : ∃ n, (nat (l ++ 128 :: List.replicate j 0)).length = n := ⟨_, rfl⟩
      have hnn : l.length + 1 + j = n := by rw [← hn, nat_length]; simp; omega
      obtain ⟨m, hm⟩ : ∃ m, n % 64 = m := ⟨_, rfl⟩
      have q1 : (n : Int) % 64 = (m : Int) := by omega
      have q2 : (0 : Int) ≤ (m : Int) := by omega
      have q3 : (m : Int) < 64 := by omega
      have HNN := Lib.hid hnn
      have HNe := Lib.hid hn
      by_cases hlt : j < ZZ
      · have HJ' := Lib.hid (show j < ZZ ∧ ZZ < (k + 1) + j from ⟨hlt, HJ.out.2⟩)
        have h56 : m ≠ 56 := by have := HZ.out.2.2 j hlt; rw [hnn, hm] at this; exact this
        have t1 : ((m : Int) != 56) = true := by rw [bne_iff_ne]; omega
        have t2 : ((m : Int) == 56) = false := by rw [beq_eq_false_iff_ne]; omega
        have hnl : n ≤ 1000100 := by have := HZ.out.1; have := HL.out; omega
        have HRn := Lib.hid hR
        have HNl := Lib.hid hnl
        have q4 : (n : Int) ≤ 1000100 := by omega
        clear hC2 hc2 hR HR hm hn hnn h56 HJ hlt hnl
        rw [HNe.out] at HRn ⊢
        go_wp2_with (at_builtin; refine app1 (w0 := w) .u8 w.heap.size (.tmp 25) (.tmp 26) 22 5 1 rfl rfl Try.underlying22 info_u8 (by decide) (.slice A2 n c2) (nat (l ++ 128 :: List.replicate j 0)) 0 rfl rfl HRn.out HB.out HB.out.size (by rw [HNe.out]; have := HNl.out; omega) ?_; intro v4 w4 ho4 hb4 _; (have HO4 := Lib.hid ho4); (have HB4 := Lib.hid hb4); clear ho4 hb4)
        go_roundg k
        case measure => have := HJ'.out; omega
        case rel => exact ⟨j + 1, Lib.hid (by have := HJ'.out; omega), Lib.hid (by
          have h := HO4.out
          rw [show nat (l ++ 128 :: List.replicate j 0) ++ [0] = nat (l ++ 128 :: List.replicate (j + 1) 0) from by
            rw [List.replicate_succ', show l ++ 128 :: (List.replicate j 0 ++ [0]) = (l ++ 128 :: List.replicate j 0) ++ [0] from by simp, nat_app (l ++ 128 :: List.replicate j 0) [0]]
            rfl] at h
          exact h), HB4⟩
      · obtain rfl : j = ZZ := by have := HJ.out; omega
        have h56 : m = 56 := by have := HZ.out.2.1; rw [hnn, hm] at this; exact this
        have t1 : ((m : Int) != 56) = false := by rw [h56]; rfl
        have t2 : ((m : Int) == 56) = true := by rw [h56]; rfl
        have HRn := Lib.hid hR
        have hnl : n ≤ 1000100 := by have := HZ.out.1; have := HL.out; omega
        have HNl := Lib.hid hnl
        have q4 : (n : Int) ≤ 1000100 := by omega
        clear hC2 hc2 hR HR hm hn hnn h56 HJ hlt hnl
        rw [HNe.out] at HRn ⊢
        obtain ⟨N, hN⟩ : ∃ N, 8 * l.length = N := ⟨_, rfl⟩
        have e1 : (8 : Int) * (l.length : Int) = (N : Int) := by omega
        have HNv := Lib.hid hN
        clear hN
        go_wp2_with fail
        clear q1 q2 q3 t1 t2 e1
        have HSd := Lib.hid (show (szN l.length).drop 8 = [] from List.drop_eq_nil_of_le (by rw [HSz.out]; exact Nat.le_refl _))
        go_loopg [8, 9, 10] 9 (fun g v8 v9 v10 w' => ∃ i q : Nat, v10 = .int .i64 (i : Int) ∧ v8 = .int .u64 (q : Int) ∧ Hid (i ≤ 8 ∧ 8 < g + i) ∧ Hid (N / 256 ^ i = q) ∧ Hid ((Kd.int .u8).R 5 w' w.heap.size (fun _ => True) v9 (nat ((szN l.length).drop (8 - i)))) ∧ Hid ((Kd.int .u8).R 5 w' w.heap.size (fun _ => True) (.slice A2 n c2) (nat (l ++ 128 :: List.replicate j 0))) ∧ Hid (Below w.heap.size w w'))
        case atStart => exact ⟨0, N, rfl, rfl, Lib.hid ⟨by omega, by omega⟩, Lib.hid (by rw [Nat.pow_zero, Nat.div_one]), Lib.hid (by rw [HSd.out]; exact Kd.R_nil _ _ _ _ _), HRn, HB⟩
        case round =>
          obtain ⟨i, q, rfl, rfl, HQ, HE, HR9, HRn, HB⟩ := hrel
          cases gk with
          | zero => have := HQ.out; omega
          | succ k2 =>
            have hqb : q ≤ 8000000 := by have := HE.out; have h1 := HNv.out; have h2 := HL.out; have := Nat.div_le_self N (256 ^ i); omega
            by_cases hlt : i < 8
            · have HQ' := Lib.hid (show i < 8 ∧ 8 < (k2 + 1) + i from ⟨hlt, HQ.out.2⟩)
              obtain ⟨d, hd⟩ : ∃ d, q % 256 = d := ⟨_, rfl⟩
              obtain ⟨q2, hq2⟩ : ∃ d, q / 256 = d := ⟨_, rfl⟩
              have hdr := drop_cons' (l := szN l.length) (k := 7 - i) (y := d) (by rw [HSz.out]; omega) (by
                have h1 := HSg.out (7 - i) (by omega)
                rw [show 7 - (7 - i) = i from by omega, Nat.mul_comm, HNv.out, HE.out, hd] at h1
                exact h1)
              rw [show 7 - i + 1 = 8 - i from by omega] at hdr
              have HDr := Lib.hid (show nat ((szN l.length).drop (8 - (i + 1))) = [(d : Int)] ++ nat ((szN l.length).drop (8 - i)) from by rw [← hdr, show 8 - (i + 1) = 7 - i from by omega])
              have HE2 := Lib.hid (show N / 256 ^ (i + 1) = q2 from by rw [Nat.pow_succ, ← Nat.div_div_eq_div_mul, HE.out, hq2])
              have e1 : (q : Int) % 256 = (d : Int) := by omega
              have e2 : (q : Int) / 256 = (q2 : Int) := by omega
              have e3 : (q : Int) ≤ 8000000 := by omega
              have e4 : (0 : Int) ≤ (q : Int) := by omega
              have e5 : (d : Int) < 256 := by omega
              have e6 : (0 : Int) ≤ (d : Int) := by omega
              have e7 : (i : Int) < 8 := by omega
              obtain ⟨A9, c9, hv9, hc9, hC9⟩ := Kd.R_reads HR9.out
              obtain ⟨n9, hn9⟩ : ∃ n, (nat ((szN l.length).drop (8 - i))).length = n := ⟨_, rfl⟩
              rw [hn9] at hv9 hC9
              subst hv9
              have HC9 := Lib.hid hC9
              have hl9 : n9 ≤ 8 := by rw [← hn9, nat_length, List.length_drop, HSz.out]; omega
              have HL9 := Lib.hid hl9
              clear hlt HQ hqb hd hq2 hdr hc9 hC9 hn9 hl9
              generalize nat ((szN l.length).drop (8 - i)) = X at *
              go_wp2_with (at_builtin; refine appn (w0 := wr.alloc (.cells #[.int .u8 (d : Int)] 5)) .u8 w.heap.size (.tmp 39) (.tmp 40) 22 5 1 rfl rfl Try.underlying22 info_u8 (by decide) (.slice (some ⟨wr.heap.size, 0, none⟩) 1 1) [(d : Int)] X A9 n9 c9 rfl rfl (ownK (l := [d]) (AB.mk wr .u8 5 [d]) HB.out.size (show 1 ≤ maxLen by decide)) (Kd.C_alloc HC9.out _) (Below.refl _ _) (Nat.le_trans HB.out.size (by simp)) (by have := HL9.out; simp; omega) ?_; intro v5 w5 ho5 hb5 hg5; (have HO5 := Lib.hid ho5); (have HG5 := Lib.hid hg5); clear ho5 hb5 hg5)
              have h5 := below_new (show (wr.alloc _).grownBy w5 (some wr.heap.size) from HG5.out)
              have HB5 := Lib.hid h5.1
              clear h5
              have HR5 := Lib.hid (Kd.R_below HRn.out HB5.out)
              have HB55 := Lib.hid (HB.out.trans (HB5.out.mono HB.out.size))
              clear HG5 HB5
              go_roundg k2
              case measure => have := HQ'.out; omega
              case rel => exact ⟨i + 1, q2, by go_num, rfl, Lib.hid (by have := HQ'.out; omega), HE2, Lib.hid (by rw [HDr.out]; exact HO5.out), HR5, HB55⟩
            · obtain rfl : i = 8 := by have := HQ.out; omega
              clear hlt HQ HE hqb HSd
              obtain ⟨A9, c9, hv9, hc9, hC9⟩ := Kd.R_reads HR9.out
              rw [show 8 - 8 = 0 from rfl, List.drop_zero, nat_length, HSz.out] at hv9 hC9
              subst hv9
              have HC9 := Lib.hid hC9
              have HLn := Lib.hid (show (nat (l ++ 128 :: List.replicate j 0)).length = n from HNe.out)
              clear hc9 hC9 HR9
              go_wp2_with (at_builtin; refine appn (w0 := w) .u8 w.heap.size (.tmp 44) (.tmp 45) 22 5 1 rfl rfl Try.underlying22 info_u8 (by decide) (.slice A2 n c2) (nat (l ++ 128 :: List.replicate j 0)) (nat (szN l.length)) A9 8 c9 rfl rfl HRn.out HC9.out HB.out HB.out.size (by rw [HLn.out]; have := HNl.out; omega) ?_; intro v6 w6 ho6 hb6 _; (have HO6 := Lib.hid ho6); (have HB6 := Lib.hid hb6); clear ho6 hb6)
              have hP := HO6.out
              rw [← nat_app, ← HPf.out] at hP
              have hpl : (padN l l.length).length = n + 8 := by rw [HPf.out, List.length_append, HSz.out]; have := HLn.out; rw [nat_length] at this; omega
              have hp8 : ∀ x ∈ padN l l.length, x < 256 := by
                rw [padN_eq]; exact app_lt H8.out (endN_lt _ _)
              have h64 : (n + 8) % 64 = 0 := by have := HZ.out.2.1; have := HNN.out; omega
              obtain ⟨M, hM⟩ : ∃ M, (n + 8) / 64 = M := ⟨_, rfl⟩
              have hMe : n + 8 = 64 * M := by omega
              have HShh := Lib.hid (show outN (blocks M begN (padN l l.length)) = shaN l from by rw [← HSh.out]; unfold rwith; rw [hpl, hM])
              obtain ⟨T, hT⟩ : ∃ T, n + 8 = T := ⟨_, rfl⟩
              rw [hT] at hpl hMe
              obtain ⟨AP, cP, hvP, hcP, hCP⟩ := Kd.R_reads hP
              rw [nat_length, hpl] at hvP hCP hcP
              subst hvP
              have HCP := Lib.hid hCP
              have HcP := Lib.hid hcP
              have HPl := Lib.hid hpl
              have HP8 := Lib.hid hp8
              have HMe := Lib.hid (show T = 64 * M ∧ T ≤ 1000200 from ⟨hMe, by have := HNl.out; omega⟩)
              have HSw := Lib.hid (Kd.C_below HS.out HB6.out)
              have HB0 := Lib.hid (show blocks 0 begN (padN l l.length) = begN from rfl)
              have HBs := Lib.hid (fun j => blocks_snoc j begN (padN l l.length))
              have HBl := Lib.hid (fun j => blocks_length j (s := begN) (padN l l.length) begN_length)
              have HBt := Lib.hid (fun j => blocks_lt j (s := begN) (padN l l.length) begN_lt)
              have y0 : (T : Int) ≤ 1000200 := by have := HMe.out; omega
              generalize padN l l.length = PP at *
              clear hP hpl hp8 h64 hM hMe hT hcP hCP HO6 HRn HB HPf HSh
              go_loopg [11, 12] (M + 1) (fun g v11 v12 w' => ∃ (j I : Nat) (A : Option Addr) (c : Nat), v12 = .int .i64 (I : Int) ∧ v11 = .slice A 8 c ∧ Hid (I = 64 * j ∧ j ≤ M ∧ M < g + j) ∧ Hid ((Kd.int .u32).C w' A 8 (nat (blocks j begN PP))) ∧ Hid ((Kd.int .u8).C w' AP T (nat PP)) ∧ Hid (Below w.heap.size w w'))
              case atStart => exact ⟨0, 0, As, cs, rfl, rfl, Lib.hid ⟨by omega, by omega, by omega⟩, Lib.hid (by rw [HB0.out]; exact HSw.out), HCP, HB6⟩
              case round =>
                obtain ⟨j, I, A, c, rfl, rfl, HQ, HV, HCP, HB⟩ := hrel
                clear HSw HB0 HB6
                cases gk with
                | zero => have := HQ.out; omega
                | succ k3 =>
                  by_cases hlt : j < M
                  · have HQ' := Lib.hid (show I = 64 * j ∧ j < M ∧ M < (k3 + 1) + j from ⟨HQ.out.1, hlt, HQ.out.2.2⟩)
                    have hI : I + 64 ≤ T := by have := HMe.out; have := HQ.out; omega
                    obtain ⟨I2, hI2⟩ : ∃ x, I + 64 = x := ⟨_, rfl⟩
                    obtain ⟨Ac, cc, hcr, hcc, hcC⟩ := cutM AP T cP (I : Int) (I2 : Int) I I2 rfl rfl (by omega) (by omega) HcP.out
                    rw [show I2 - I = 64 from by omega] at hcr hcc hcC
                    have hcc64 : (Kd.int .u8).C wr Ac 64 (nat ((PP.drop (64 * j)).take 64)) := by
                      have h := hcC wr PP HCP.out
                      rw [← hI2, cut64, HQ.out.1] at h
                      exact h
                    have hq := rinto_any (blocks j begN PP) ((PP.drop (64 * j)).take 64) A Ac Ak c cc ck wr HV.out (HBl.out j) (HBt.out j) hcc64 (by rw [List.length_take, List.length_drop, HPl.out]; have := HQ.out; omega) (take_lt _ (drop_lt _ HP8.out)) (Kd.C_below HK.out HB.out)
                    rw [← HBs.out j] at hq
                    have HQr := Lib.hid hq
                    have x0 : (I : Int) < (T : Int) := by omega
                    have x1 : (0 : Int) ≤ (I : Int) := by omega
                    have x2 : (I : Int) + 64 = (I2 : Int) := by omega
                    have HI2 := Lib.hid (show I2 = 64 * (j + 1) from by have := HQ.out; omega)
                    clear hlt HQ hI hI2 hcc hcC hcc64 hq
                    go_wp2_with fail
                    refine HQr.out.mono ?_
                    rintro e w9 ⟨v9, rfl, hr9, hb9⟩
                    obtain ⟨A9, c9, hv9, hc9, hC9⟩ := Kd.R_reads hr9
                    rw [nat_length, HBl.out] at hv9 hC9
                    subst hv9
                    have HC9 := Lib.hid hC9
                    have HCP9 := Lib.hid (Kd.C_below HCP.out hb9)
                    have HB9 := Lib.hid (HB.out.trans (hb9.mono HB.out.size))
                    clear hr9 hb9 hc9 hC9 hcr HQr
                    go_wp2_with fail
                    go_roundg k3
                    case measure => have := HQ'.out; omega
                    case rel => exact ⟨j + 1, I2, A9, c9, rfl, rfl, Lib.hid (by have := HQ'.out; have := HI2.out; omega), HC9, HCP9, HB9⟩
                  · obtain rfl : j = M := by have := HQ.out; omega
                    have hIT : I = T := by have := HQ.out; have := HMe.out; omega
                    subst hIT
                    have HBl' := Lib.hid (HBl.out j)
                    have HBt' := Lib.hid (HBt.out j)
                    have HOl := Lib.hid (outN_length (HBl.out j))
                    have HOg := Lib.hid (fun i k (hi : i < 8) (hk : k < 4) => outN_get (v := blocks j begN PP) (i := i) (k := k) (by rw [HBl.out]; exact hi) hk)
                    generalize blocks j begN PP = V at *
                    clear hlt HQ HBl HBt HBs HCP
                    go_wp2_with fail
                    obtain ⟨wo, rfl⟩ : ∃ wo : World, wo = wr := ⟨_, rfl⟩
                    go_loopg [13, 14] 9 (fun g v13 v14 w' => ∃ i : Nat, v14 = .int .i64 (i : Int) ∧ Hid (i ≤ 8 ∧ 8 < g + i) ∧ Hid ((Kd.int .u8).R 5 w' wo.heap.size (fun _ => True) v13 (nat ((outN V).take (4 * i)))) ∧ Hid (Below wo.heap.size wo w'))
                    case atStart => exact ⟨0, rfl, Lib.hid ⟨by omega, by omega⟩, Lib.hid (Kd.R_nil _ _ _ _ _), Lib.hid (Below.refl _ _)⟩
                    case round =>
                      obtain ⟨i, rfl, HJ, HR, HBx⟩ := hrel
                      cases gk with
                      | zero => have := HJ.out; omega
                      | succ k4 =>
                        by_cases hlt : i < 8
                        · have HJ' := Lib.hid (show i < 8 ∧ 8 < (k4 + 1) + i from ⟨hlt, HJ.out.2⟩)
                          have hv := Kd.C_below HV.out HBx.out
                          rw [← HBl'.out] at hv
                          obtain ⟨bv, ov, rfl, hbv, hcv⟩ := B_at hv (by rw [HBl'.out]; decide)
                          have p0 := hcv i (by rw [HBl'.out]; exact hlt)
                          have hx := getD_lt (show i < V.length by rw [HBl'.out]; exact hlt) HBt'.out
                          have h4 := take4 (l := outN V) (n := 4 * i) (by rw [HOl.out]; omega)
                          have g0 := HOg.out i 0 hlt (by decide)
                          have g1 := HOg.out i 1 hlt (by decide)
                          have g2 := HOg.out i 2 hlt (by decide)
                          have g3 := HOg.out i 3 hlt (by decide)
                          obtain ⟨x, hxx⟩ : ∃ x, V.getD i 0 = x := ⟨_, rfl⟩
                          rw [hxx] at p0 hx g0 g1 g2 g3
                          obtain ⟨b0, hb0⟩ : ∃ y, x / 16777216 = y := ⟨_, rfl⟩
                          obtain ⟨c1, hc1⟩ : ∃ y, x / 65536 = y := ⟨_, rfl⟩
                          obtain ⟨b1, hb1⟩ : ∃ y, c1 % 256 = y := ⟨_, rfl⟩
                          obtain ⟨c2, hc2⟩ : ∃ y, x / 256 = y := ⟨_, rfl⟩
                          obtain ⟨b2, hb2⟩ : ∃ y, c2 % 256 = y := ⟨_, rfl⟩
                          obtain ⟨b3, hb3⟩ : ∃ y, x % 256 = y := ⟨_, rfl⟩
                          rw [g1, g2, g3, show (outN V).getD (4 * i) 0 = _ from g0, show x / 2 ^ (24 - 8 * 0) % 256 = b0 from by rw [← hb0]; show x / 16777216 % 256 = _; omega, show x / 2 ^ (24 - 8 * 1) % 256 = b1 from by rw [← hb1, ← hc1], show x / 2 ^ (24 - 8 * 2) % 256 = b2 from by rw [← hb2, ← hc2], show x / 2 ^ (24 - 8 * 3) % 256 = b3 from by rw [← hb3]; show x / 1 % 256 = _; rw [Nat.div_one]] at h4
                          have HT4 := Lib.hid (show nat ((outN V).take (4 * (i + 1))) = nat ((outN V).take (4 * i)) ++ nat [b0, b1, b2, b3] from h4)
                          have e0 : (x : Int) / 16777216 = (b0 : Int) := by omega
                          have e1 : (x : Int) / 65536 = (c1 : Int) := by omega
                          have e2 : (c1 : Int) % 256 = (b1 : Int) := by omega
                          have e3 : (x : Int) / 256 = (c2 : Int) := by omega
                          have e4 : (c2 : Int) % 256 = (b2 : Int) := by omega
                          have e5 : (x : Int) % 256 = (b3 : Int) := by omega
                          have y0 : (b0 : Int) < 256 := by omega
                          have y1 : (b1 : Int) < 256 := by omega
                          have y2 : (b2 : Int) < 256 := by omega
                          have y3 : (b3 : Int) < 256 := by omega
                          have y4 : (0 : Int) ≤ (x : Int) := by omega
                          have y5 : (i : Int) < 8 := by omega
                          have y6 : (0 : Int) ≤ (i : Int) := by omega
                          have y7 : (0 : Int) ≤ (c1 : Int) := by omega
                          have y8 : (0 : Int) ≤ (c2 : Int) := by omega
                          have qx := gw hbv p0
                          have HLo := Lib.hid (show (nat ((outN V).take (4 * i))).length ≤ 32 from by rw [nat_length, List.length_take, HOl.out]; omega)
                          have HRd := Lib.hid (Kd.R_below HR.out (stay0 wr))
                          have HBd := Lib.hid (show Below wo.heap.size wo wr.drew from HBx.out.drew)
                          clear hv hbv hcv p0 hx h4 g0 g1 g2 g3 hxx hb0 hc1 hb1 hc2 hb2 hb3 hlt HJ HR
                          generalize nat ((outN V).take (4 * i)) = X at *
                          go_wp2_with fail
                          refine Q.wp_region_segsG none [([0, 1, 2, 3, 4, 5, 6, 7, 8, 9, 10, 11, 12, 13, 14, 15, 16, 17, 18, 19, 20, 21, 22, 23, 24, 25, 26], some 27)] [] 28 [29] (by kernel_rfl) (by kernel_rfl) (by kernel_rfl) (by kernel_rfl) ?_
                          dsimp only [Q.wpSegsG, Q.picks, Q.pick]
                          repeat (go_big_quiet_step (fail))
                          refine wpQuiet_nil ?_
                          clear qx e0 e1 e2 e3 e4 e5
                          go_wp2_with fail
                          refine Q.ev_keep ((Below.refl _ _).alloc (Nat.le_refl _) _) (Nat.le_refl _) ?_
                          refine wpQuiet_nil ?_
                          refine appn (w0 := wo) .u8 wo.heap.size (.tmp 66) (.tmp 93) 22 5 1 rfl rfl Try.underlying22 info_u8 (by decide) u13 X (nat [b0, b1, b2, b3]) (some ⟨wr.drew.heap.size, 0, none⟩) 4 4 rfl rfl (Kd.R_below HRd.out ((Below.refl _ _).alloc (Nat.le_refl _) _)) (rowK (AB.mk wr.drew .u8 5 [b0, b1, b2, b3]) (show 4 ≤ maxLen by decide)) (HBd.out.alloc HBd.out.size _) (Nat.le_trans HBd.out.size (by simp)) (by have := HLo.out; omega) ?_
                          intro v8 w8 hr8 hb8 _
                          have HR8 := Lib.hid hr8
                          have HB8 := Lib.hid hb8
                          clear hr8 hb8
                          go_wp2_with fail
                          refine NoPanic.normal ?_
                          go_wp2_with fail
                          go_roundg k4
                          case measure => have := HJ'.out; omega
                          case rel => exact ⟨i + 1, by go_num, Lib.hid (by have := HJ'.out; omega), Lib.hid (by rw [HT4.out]; exact HR8.out), HB8⟩
                        · obtain rfl : i = 8 := by have := HJ.out; omega
                          have HRe := Lib.hid (show (Kd.int .u8).R 5 wr w.heap.size (fun _ => True) u13 (nat (shaN l)) from by have := Kd.R_lower HR.out HB.out.size; rwa [List.take_of_length_le (by rw [HOl.out]; decide), HShh.out] at this)
                          clear hlt HJ HR
                          go_wp2_with fail
                          go_ret
                          exact ⟨_, rfl, HRe.out, HB.out.trans (HBx.out.mono HB.out.size)⟩
end Go.Proofs.Ytagfplcafeblbaa.H
