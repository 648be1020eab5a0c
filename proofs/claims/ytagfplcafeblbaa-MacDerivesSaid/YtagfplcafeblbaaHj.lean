/-
  sha: Sum.
-/
import Derived.Test.YtagfplcafeblbaaHi
import Derived.Deep.DeepCutAuto
import Derived.Deep.CutRange
namespace Go.Proofs.Ytagfplcafeblbaa.H
open Go.RowKit Go.Proofs.Ytagfplcafeblbaa.L Go.Proofs.Ytagfplcafeblbaa.N Go.Proofs.YtagfplcafeblbaaW.PrintWords

abbrev tSum : TypeId := 29
theorem info_sum : (Try.prog.info? tSum).map (·.size) = some 32 := by kernel_rfl
theorem info_u32 : (Try.prog.info? 33).map (·.size) = some 1 := by kernel_rfl
def z32 : List Nat := List.replicate 32 0
set_option maxRecDepth 100000 in
set_option maxHeartbeats 800000 in
theorem sum_nil (w : World) : Calls Try.prog 17 #[.pointer none] w fun e w' => e = .returned (.tuple #[.agg (arr .u8 z32), .int .i64 6]) ∧ Below w.heap.size w w' := by
  go_enter Try.func17, Try.ntmps17
  go_upto_region 2 with (fail)
  refine wp_at fun W hW => ?_
  obtain ⟨h2, h4, hb, hsz⟩ := two_ab (k := .u8) (k' := .u8) z32 z32 hW
  have H2 := Lib.hid h2
  have H4 := Lib.hid h4
  have HB := Lib.hid hb
  have HSz := Lib.hid hsz
  clear hW h2 h4 hb hsz
  go_wp2_with (first
    | (refine load_ab .u8 (w.heap.size + 1) z32 rfl rfl rfl H4.out Try.underlying29 info_sum ?_)
    | (refine store_ab .u8 w.heap.size z32 z32 rfl rfl rfl rfl rfl H2.out info_sum rfl ?_; intro W2 hs2 hg2; (have HS2 := Lib.hid hs2); (have HG2 := Lib.hid hg2); clear hs2 hg2))
  have hl := HS2.out.load (P := Try.prog) Try.underlying29 info_sum
  have hb2 := below_grown HB.out (by rw [HSz.out]; omega) HG2.out (Nat.le_refl _)
  exact bodyPost_ret (v := .tuple #[.agg (arr .u8 z32), .int .i64 6]) (by simp [results, Try.results17, hl, asAddr]) rfl ⟨rfl, hb2⟩
/-- how many zeros -/
theorem pad_more {r j : Nat} (hr : r < 64) (hj : j < (119 - r) % 64) : (r + 1 + j) % 64 ≠ 56 := by omega
theorem pad_done {r : Nat} (hr : r < 64) : (r + 1 + (119 - r) % 64) % 64 = 56 := by omega
/-- eight bytes of a length -/
def szN (n : Nat) : List Nat := (List.range 8).map (fun i => n * 8 / 256 ^ (7 - i) % 256)
theorem szN_length (n : Nat) : (szN n).length = 8 := by simp [szN]
theorem szN_get (n : Nat) {k : Nat} (h : k < 8) : (szN n).getD k 0 = n * 8 / 256 ^ (7 - k) % 256 := by
  unfold szN
  rw [List.getD_eq_getElem?_getD, List.getElem?_map, List.getElem?_range h]
  rfl
theorem AB.range {k : IntKind} {t : TypeId} {b : Nat} {l : List Nat} {w : World} (h : AB k t b l w) : w.rangeAt b 0 (l.map (fun x : Nat => Value.int k (x : Int))) := range_blk h fun j v hj => by rw [Nat.zero_add]; exact hj
theorem arr_no {l : List Nat} (i : Nat) (y : Int) : (arr .u32 l)[i]? ≠ some (.int .u8 y) := by
  intro h
  unfold arr at h
  rw [List.getElem?_toArray, List.getElem?_map] at h
  obtain ⟨x, _, e⟩ := Option.map_eq_some_iff.1 h
  injection e with e
  cases e
/-- while the last blocks go in -/
structure PL (b7 : Nat) (S s r : List Nat) (A : Option Addr) (c : Nat) (w0 w : World) : Prop where
  st : AB .u32 tA8 b7 s w
  len : s.length = 8
  sl : ∀ x ∈ s, x < 4294967296
  cap : r.length ≤ c
  row : (Kd.int .u8).C w A r.length (nat r)
  lt8 : ∀ x ∈ r, x < 256
  mod : r.length % 64 = 0
  sum : stN s r = S
  bel : Below w0.heap.size w0 w
set_option maxRecDepth 100000 in
set_option maxHeartbeats 1600000 in
theorem sum_any (b : Nat) (l : List Nat) (w : World) (h : SH b l w) (hlen : l.length ≤ 1152921504606846976) : Calls Try.prog 17 #[.pointer (some ⟨b, 0, none⟩)] w fun e w' => e = .returned (.tuple #[.agg (arr .u8 (shaN l)), .int .i64 0]) ∧ Below w.heap.size w w' := by
  obtain ⟨A, c, h⟩ := h
  have HX := Lib.hid h
  have HLen := Lib.hid hlen
  have c10 := h.g.c10
  have c8 := h.g.c8
  clear h hlen
  have hlt := HX.out.g.lt
  have hb1 : b < w.heap.size + 1 := Nat.lt_succ_of_lt hlt
  go_enter Try.func17, Try.ntmps17
  go_upto_region 2 with (fail)
  refine wp_at fun W hW => ?_
  obtain ⟨h2, h4, hb, hsz⟩ := two_ab (k := .u8) (k' := .u8) z32 z32 hW
  have hx := HX.out.move (hb.block b hlt) (below_keep hb HX.out.ty)
  have H2 := Lib.hid h2
  have H4 := Lib.hid h4
  have HB := Lib.hid hb
  have HSz := Lib.hid hsz
  have HX1 := Lib.hid hx
  have HLt := Lib.hid hlt
  clear hW h2 h4 hb hsz HX c10 c8 hlt hb1
  have c10 := hx.g.c10
  have c8 := hx.g.c8
  have c8' := (hx.g.below (w1 := W.alloc (.cells #[] 5)) ((Below.refl _ _).alloc (Nat.le_refl _) _)).c8
  clear hx
  go_wp2_with (first
    | (at_builtin; refine appn (w0 := W) .u8 W.heap.size (.tmp 21) (.tmp 25) 22 5 1 rfl rfl Try.underlying22 info_u8 (by decide) _ [] (nat (lfN l)) A _ c rfl rfl (R_empty (Nat.le_refl _) _ rfl) (Kd.C_alloc HX1.out.row _) ((Below.refl _ _).alloc (Nat.le_refl _) _) (by simp) (by have := lfN_length l; simp; omega) ?_; intro v1 w2 ho2 hb2 _; (have HO2 := Lib.hid ho2); (have HB2 := Lib.hid hb2); clear ho2 hb2)
    | (at_builtin; refine app1 (w0 := W) .u8 W.heap.size (.tmp 26) (.tmp 27) 22 5 1 rfl rfl Try.underlying22 info_u8 (by decide) v1 (nat (lfN l)) 128 rfl rfl HO2.out HB2.out HB2.out.size (by have := lfN_length l; rw [nat_length]; omega) ?_; intro v2 w3 ho3 hb3 _; (have HO3 := Lib.hid ho3); (have HB3 := Lib.hid hb3); clear ho3 hb3))
  have HR0 := Lib.hid (show (Kd.int .u8).R 5 w3 W.heap.size (fun _ => True) v2 (nat (lfN l ++ 128 :: List.replicate 0 0)) from by rw [nat_app]; exact HO3.out)
  have HRl := Lib.hid (show (lfN l).length < 64 from by have := lfN_length l; omega)
  clear HO2 HB2 HO3 c8' c8 c10
  go_loopg [5] ((119 - (lfN l).length) % 64 + 1) (fun g v5 w' => ∃ j : Nat, Hid (j ≤ (119 - (lfN l).length) % 64 ∧ (119 - (lfN l).length) % 64 < g + j) ∧ Hid ((Kd.int .u8).R 5 w' W.heap.size (fun _ => True) v5 (nat (lfN l ++ 128 :: List.replicate j 0))) ∧ Hid (Below W.heap.size W w'))
  case atStart => exact ⟨0, Lib.hid ⟨by omega, by omega⟩, HR0, HB3⟩
  case round =>
    obtain ⟨j, HJ, HR, HBl⟩ := hrel
    clear HR0 HB3
    cases gk with
    | zero => have := HJ.out; omega
    | succ k =>
      have hR := HR.out
      obtain ⟨A2, c2, hv, hc2, hC2⟩ := Kd.R_reads hR
      subst hv
      obtain ⟨n, hn⟩ : ∃ n, (nat (lfN l ++ 128 :: List.replicate j 0)).length = n := ⟨_, rfl⟩
      have hnn : (lfN l).length + 1 + j = n := by rw [← hn, nat_length]; simp; omega
      obtain ⟨m, hm⟩ : ∃ m, n % 64 = m := ⟨_, rfl⟩
      have q1 : (n : Int) % 64 = (m : Int) := by omega
      have q2 : (0 : Int) ≤ (m : Int) := by omega
      have q3 : (m : Int) < 64 := by omega
      have HNN := Lib.hid hnn
      have HNe := Lib.hid hn
      have hll := HLen.out
      by_cases hlt : j < (119 - (lfN l).length) % 64
      · have HJ' := Lib.hid (show j < (119 - (lfN l).length) % 64 ∧ (119 - (lfN l).length) % 64 < (k + 1) + j from ⟨hlt, HJ.out.2⟩)
        have h56 : m ≠ 56 := by have := pad_more HRl.out hlt; omega
        have t1 : ((m : Int) != 56) = true := by rw [bne_iff_ne]; omega
        have t2 : ((m : Int) == 56) = false := by rw [beq_eq_false_iff_ne]; omega
        have hnl : n ≤ 200 := by have := HRl.out; omega
        have HRn := Lib.hid hR
        have HNl := Lib.hid hnl
        clear hC2 hc2 hR HR hm hn hnn h56 HJ hlt hll hnl
        rw [HNe.out] at HRn ⊢
        go_wp2_with (at_builtin; refine app1 (w0 := W) .u8 W.heap.size (.tmp 33) (.tmp 34) 22 5 1 rfl rfl Try.underlying22 info_u8 (by decide) (.slice A2 n c2) (nat (lfN l ++ 128 :: List.replicate j 0)) 0 rfl rfl HRn.out HBl.out HBl.out.size (by rw [HNe.out]; have := HNl.out; omega) ?_; intro v4 w4 ho4 hb4 _; (have HO4 := Lib.hid ho4); (have HB4 := Lib.hid hb4); clear ho4 hb4)
        go_roundg k
        case measure => have := HJ'.out; omega
        case rel => exact ⟨j + 1, Lib.hid (by have := HJ'.out; omega), Lib.hid (by
          have h := HO4.out
          rw [show nat (lfN l ++ 128 :: List.replicate j 0) ++ [0] = nat (lfN l ++ 128 :: List.replicate (j + 1) 0) from by
            rw [List.replicate_succ', show lfN l ++ 128 :: (List.replicate j 0 ++ [0]) = (lfN l ++ 128 :: List.replicate j 0) ++ [0] from by simp, nat_app (lfN l ++ 128 :: List.replicate j 0) [0]]
            rfl] at h
          exact h), HB4⟩
      · have hj : j = (119 - (lfN l).length) % 64 := by have := HJ.out; omega
        have h56 : m = 56 := by have := pad_done HRl.out; omega
        have t1 : ((m : Int) != 56) = false := by rw [h56]; rfl
        have t2 : ((m : Int) == 56) = true := by rw [h56]; rfl
        have HRn := Lib.hid hR
        clear hC2 hc2 hR HR hm hn hnn h56 HJ hlt hll
        rw [HNe.out] at HRn ⊢
        have HJe := Lib.hid hj
        clear hj
        go_wp2_with fail
        clear q1 q2 q3 t1 t2
        have HS0 := Lib.hid (show (Kd.int .u8).R 5 wr W.heap.size (fun _ => True) (.slice A2 n c2) (nat (lfN l ++ 128 :: List.replicate ((119 - (lfN l).length) % 64) 0 ++ (szN l.length).take 0)) from by
          rw [List.take_zero, List.append_nil, ← HJe.out]; exact HRn.out)
        clear HRn
        go_loopg [5, 6] 9 (fun g v5 v6 w' => ∃ (q : Nat) (I : Int), v6 = .int .i64 I ∧ Hid (I = 7 - (q : Int)) ∧ Hid (q ≤ 8 ∧ 8 < g + q) ∧ Hid ((Kd.int .u8).R 5 w' W.heap.size (fun _ => True) v5 (nat (lfN l ++ 128 :: List.replicate ((119 - (lfN l).length) % 64) 0 ++ (szN l.length).take q))) ∧ Hid (Below W.heap.size W w'))
        case atStart => exact ⟨0, 7, rfl, Lib.hid rfl, Lib.hid ⟨by omega, by omega⟩, HS0, HBl⟩
        case round =>
          obtain ⟨q, I, rfl, HI, HQ, HR, HBl2⟩ := hrel
          clear HS0 HBl
          cases gk with
          | zero => have := HQ.out; omega
          | succ k2 =>
            have hI := HI.out
            by_cases hq8 : q < 8
            · have HQ' := Lib.hid (show q < 8 ∧ 8 < (k2 + 1) + q from ⟨hq8, HQ.out.2⟩)
              obtain ⟨i, hi⟩ : ∃ i : Nat, I = (i : Int) := ⟨(7 - q), by omega⟩
              subst hi
              have c9 := (HX1.out.g.below HBl2.out).c9
              have z1 : (0 : Int) ≤ (i : Int) := by omega
              have z2 : (i : Int) ≤ 7 := by omega
              have z3 : (l.length : Int) ≤ 1152921504606846976 := by have := HLen.out; omega
              clear hI hq8 HQ
              have hR := HR.out
              obtain ⟨A3, c3, hv, hc3, hC3⟩ := Kd.R_reads hR
              subst hv
              have HRn := Lib.hid hR
              have HYy := Lib.hid (show ((l.length : Int) * 8 / 2 ^ (8 * i) % 256) = (((szN l.length).getD q 0 : Nat) : Int) from by
                have := HI.out
                have hq := HQ'.out.1
                rw [szN_get _ hq, show 7 - q = i from by omega, show (256 : Nat) ^ i = 2 ^ (8 * i) from by rw [Nat.pow_mul]]
                simp)
              have hln : (nat (lfN l ++ 128 :: List.replicate ((119 - (lfN l).length) % 64) 0 ++ (szN l.length).take q)).length ≤ 300 := by
                rw [nat_length]
                have := HRl.out
                have := szN_length l.length
                simp only [List.length_append, List.length_cons, List.length_replicate, List.length_take]
                omega
              have HLn := Lib.hid hln
              clear hC3 hc3 hR HR hln
              go_wp2_with (at_builtin; refine app1 (w0 := W) .u8 W.heap.size (.tmp 40) (.tmp 51) 22 5 1 rfl rfl Try.underlying22 info_u8 (by decide) _ (nat (lfN l ++ 128 :: List.replicate ((119 - (lfN l).length) % 64) 0 ++ (szN l.length).take q)) ((l.length : Int) * 8 / 2 ^ (8 * i) % 256) rfl rfl HRn.out HBl2.out HBl2.out.size (by have := HLn.out; omega) ?_; intro v4 w4 ho4 hb4 _; (have HO4 := Lib.hid ho4); (have HB4 := Lib.hid hb4); clear ho4 hb4)
              go_roundg k2
              case measure => have := HQ'.out; omega
              case rel => exact ⟨q + 1, _, rfl, Lib.hid (by have := HI.out; omega), Lib.hid (by have := HQ'.out; omega), Lib.hid (by
                have h := HO4.out
                rw [HYy.out, nat_app, List.append_assoc, nat_snoc (by rw [szN_length]; exact HQ'.out.1), ← nat_app] at h
                exact h), HB4⟩
            · have hq : q = 8 := by have := HQ.out; omega
              subst hq
              have hi : I = -1 := by omega
              subst hi
              have hX := HX1.out.g.below HBl2.out
              obtain ⟨s0, hs0⟩ : ∃ s, stN begN l = s := ⟨_, rfl⟩
              rw [hs0] at hX
              have HXg := Lib.hid hX
              have HMl := Lib.hid hX.len
              have HSl := Lib.hid (hs0 ▸ stN_lt l begN_lt)
              have hP : lfN l ++ 128 :: List.replicate ((119 - (lfN l).length) % 64) 0 ++ (szN l.length).take 8 = padN (lfN l) l.length := by
                rw [List.take_of_length_le (by rw [szN_length]; omega), padN, Nat.mod_eq_of_lt HRl.out, List.append_assoc, List.cons_append]
                rfl
              have hR := HR.out
              rw [hP] at hR
              obtain ⟨A3, c3, hv, hc3, hC3⟩ := Kd.R_reads hR
              rw [nat_length] at hv hc3 hC3
              subst hv
              have hpm : (padN (lfN l) l.length).length % 64 = 0 := by
                rw [padN_eq, List.length_append]; exact endN_length _ _
              have hpl : (padN (lfN l) l.length).length ≤ 192 := by
                have := HRl.out
                rw [padN_eq, List.length_append]
                simp only [endN, List.length_cons, List.length_append, List.length_replicate, List.length_map, List.length_range]
                omega
              have hpb : ∀ x ∈ padN (lfN l) l.length, x < 256 := by
                rw [padN_eq]; exact app_lt (drop_lt _ HX1.out.lt8) (endN_lt _ _)
              have hps : outN (stN s0 (padN (lfN l) l.length)) = shaN l := by rw [← hs0]; exact sha_left l
              have HP := Lib.hid (show (padN (lfN l) l.length).length % 64 = 0 ∧ (padN (lfN l) l.length).length ≤ 192 ∧ (∀ x ∈ padN (lfN l) l.length, x < 256) ∧ outN (stN s0 (padN (lfN l) l.length)) = shaN l from ⟨hpm, hpl, hpb, hps⟩)
              have HC3 := Lib.hid hC3
              have Hc3 := Lib.hid hc3
              clear hX hs0 hP hR HR hC3 hc3 hpm hpl hpb hps HQ hq8 HI hI HNe HNN HJe
              generalize padN (lfN l) l.length = P at HP HC3 Hc3 ⊢
              go_wp2_with (first
                | (refine wpList_load_mid rfl 34 (.tmp 55) rfl b 0 rfl _ _ HXg.out.range Try.underlying34 rfl (by rw [List.length_map, HMl.out]; exact info_a8) ?_)
                | (refine store_ab .u32 wr.heap.size (List.replicate 8 0) s0 rfl rfl rfl rfl rfl (AB.mk wr .u32 tA8 (List.replicate 8 0)) (by rw [HMl.out]; exact info_a8) (by rw [HMl.out]; rfl) ?_; intro W2 h8 hg8; (have R8 := Lib.hid h8); (have RG8 := Lib.hid hg8); clear h8 hg8))
              have hb7 : Below wr.heap.size wr W2 := below_grown ((Below.refl _ _).alloc (Nat.le_refl _) _) (by simp) RG8.out (Nat.le_refl _)
              have hBW := HBl2.out.size
              have M0 := Lib.hid (show PL wr.heap.size (stN s0 P) s0 P A3 c3 W W2 from ⟨R8.out, HMl.out, HSl.out, Hc3.out, Kd.C_below HC3.out hb7, HP.out.2.2.1, HP.out.1, rfl, HBl2.out.trans (hb7.mono hBW)⟩)
              have HW7 := Lib.hid (show W.heap.size ≤ wr.heap.size from hBW)
              have HPl := Lib.hid HP.out.2.1
              have HPs := Lib.hid HP.out.2.2.2
              clear hb7 hBW HC3 Hc3 RG8 R8 HXg HP
              generalize wr.heap.size = b7 at *
              generalize stN s0 P = S at M0 HPs
              go_loopg [5] (P.length + 1) (fun g v5 w' => ∃ (s r : List Nat) (A3 : Option Addr) (c3 : Nat), v5 = .slice A3 r.length c3 ∧ Hid (r.length < g) ∧ Hid (PL b7 S s r A3 c3 W w'))
              case atStart => exact ⟨s0, P, A3, c3, rfl, Lib.hid (Nat.lt_succ_self _), M0⟩
              case round =>
                obtain ⟨s, r, A3, c3, rfl, HG, HL⟩ := hrel
                clear M0
                cases gk with
                | zero => have := HG.out; omega
                | succ k3 =>
                  have hL := HL.out
                  have hmx := (B_open hL.row).1
                  by_cases h0 : 0 < r.length
                  · have h64 : 64 ≤ r.length := by have := hL.mod; omega
                    have t1 : decide ((0 : Int) < (r.length : Int)) = true := decide_eq_true (by omega)
                    have t2 : (0 : Int) < (r.length : Int) := by omega
                    have t3 : (64 : Int) ≤ (r.length : Int) := by omega
                    obtain ⟨hct, hCt⟩ := cutT A3 r.length c3 64 64 rfl h64 hL.cap
                    obtain ⟨A4, c4, hcf, hc4, hCf⟩ := cutF A3 r.length c3 64 64 rfl h64 hL.cap
                    have hlb := hL.st.lt
                    have hld : ∀ n : Q.GW wr.drew wr.heap.size none, (Instr.loadAt 34 (.pointer (some ⟨b7, 0, none⟩))).run Try.prog n.w = .ok (.agg (arr .u32 s)) n.w := fun n =>
                      run_loadAt_mid n.w b7 0 34 _ _ (H.AB.range (hL.st.drew.below hlb (Q.GW.below (W := wr.drew) n))) Try.underlying34 rfl (by rw [List.length_map, hL.len]; exact info_a8)
                    have ht64 : (r.take 64).length = 64 := by rw [List.length_take]; omega
                    have hq := mix_any s (r.take 64) A3 c3 wr.drew hL.len hL.sl ht64 (take_lt _ hL.lt8) (by rw [ht64]; exact Kd.C_drew (hCt _ _ hL.row)) (by rw [ht64]; have := hL.cap; omega)
                    rw [ht64] at hq
                    have HQ := Lib.hid hq
                    have H64 := Lib.hid h64
                    have HCf := Lib.hid hCf
                    have Hc4 := Lib.hid hc4
                    clear hL hCt hCf hc4 hq ht64 h64 h0 hlb
                    go_wp2_with fail
                    refine Q.wp_region_segsF none [([0, 1, 2], some 3)] [] 4 (by kernel_rfl) (by kernel_rfl) (by kernel_rfl) (by kernel_rfl) ?_
                    dsimp only [Q.wpSegsF, Q.picks, Q.pick]
                    refine quiet_load 34 (.tmp 7) (.pointer (some ⟨b7, 0, none⟩)) (.agg (arr .u32 s)) rfl rfl rfl (by rintro w' ⟨n, rfl⟩; exact hld n) ?_
                    go_simp
                    repeat (go_big_quiet_step (fail))
                    refine wpQuiet_nil ?_
                    go_wp2_with (go_at_call 41; refine HQ.out.mono ?_; rintro e w4 ⟨rfl, hb4⟩; (have HB4 := Lib.hid hb4); clear hb4)
                    refine Q.ev_keep HB4.out (Nat.le_refl _) ?_
                    clear hld HQ
                    refine wpQuiet_nil ?_
                    refine store_ab .u32 b7 s (mixN s (r.take 64)) rfl rfl rfl rfl rfl (HL.out.st.drew.below HL.out.st.lt HB4.out) (by rw [mixN_length HL.out.len]; exact info_a8) (by rw [mixN_length HL.out.len, HL.out.len]) ?_
                    intro w5 h5 hg5
                    have HM5 := Lib.hid (show PL b7 S (mixN s (r.take 64)) (r.drop 64) A4 c4 W w5 from by
                      have hL := HL.out
                      have hdl : (r.drop 64).length = r.length - 64 := by rw [List.length_drop]
                      have h64 := H64.out
                      have hst := hL.st.drew.below hL.st.lt HB4.out
                      have hc := HCf.out _ _ (Kd.C_below (Kd.C_drew hL.row) HB4.out)
                      exact ⟨h5, mixN_length hL.len, mixN_lt, by rw [hdl]; exact Hc4.out, by rw [hdl]; exact C_apart hc hst arr_no hg5, drop_lt _ hL.lt8, by rw [hdl]; have := hL.mod; omega, (stN_step h64).symm.trans hL.sum, below_grown ((hL.bel.drew).trans (HB4.out.mono hL.bel.size)) (Nat.le_trans hL.bel.size HB4.out.size) hg5 (HW7.out)⟩)
                    clear h5 hg5
                    refine NoPanic.normal ?_
                    go_wp2_with fail
                    go_roundg k3
                    case measure => have := HG.out; have := H64.out; omega
                    case rel => exact ⟨_, r.drop 64, A4, c4, by rw [List.length_drop], Lib.hid (by rw [List.length_drop]; have := HG.out; have := H64.out; omega), HM5⟩
                  · have hr : r = [] := List.eq_nil_of_length_eq_zero (by omega)
                    subst hr
                    have hsum := hL.sum
                    rw [stN_small (by simp)] at hsum
                    subst hsum
                    have HL2 := Lib.hid hL
                    clear hL HL HG h0
                    go_wp2_with (refine load_ab .u32 b7 s rfl rfl rfl HL2.out.st Try.underlying34 (by rw [HL2.out.len]; exact info_a8) ?_)
                    have hsz := HSz.out
                    have h2 := H2.out.below (by omega) HL2.out.bel
                    have h4 := H4.out.below (by omega) HL2.out.bel
                    have hol : (outN s).length = 32 := outN_length HL2.out.len
                    have h40 : AB .u8 tSum (w.heap.size + 1) (fl (outN s) 0) wr := by rw [fl_zero, hol, show List.replicate 32 0 = z32 from rfl]; exact h4
                    have HA2 := Lib.hid h2
                    have HA0 := Lib.hid h40
                    have HOl := Lib.hid hol
                    have HSs := Lib.hid (show s.length = 8 from HL2.out.len)
                    have HBel := Lib.hid (HB.out.trans (HL2.out.bel.mono HB.out.size))
                    clear hsz h2 h4 h40 hol
                    go_loopg [67] 9 (fun g v67 w' => ∃ i : Nat, v67 = .int .i64 i ∧ Hid (i ≤ 8 ∧ 8 < g + i) ∧ Hid (AB .u8 tSum (w.heap.size + 1) (fl (outN s) (4 * i)) w') ∧ Hid (wr.grownBy w' (some (w.heap.size + 1))))
                    case atStart => exact ⟨0, rfl, Lib.hid ⟨by omega, by omega⟩, HA0, Lib.hid (World.grownBy.refl _ _)⟩
                    case round =>
                      obtain ⟨i, rfl, HJ, HA, HGr⟩ := hrel
                      clear HA0
                      cases gk with
                      | zero => have := HJ.out; omega
                      | succ k4 =>
                        by_cases hi8 : i < 8
                        · have HJ' := Lib.hid (show i < 8 ∧ 8 < (k4 + 1) + i from ⟨hi8, HJ.out.2⟩)
                          have z1 : (0 : Int) ≤ (i : Int) := by omega
                          have z2 : (i : Int) < 8 := by omega
                          have hget := index_arr (P := Try.prog) Try.underlying34 Try.underlying33 rfl info_u32 .u32 s HSs.out i hi8 (i : Int) rfl
                          obtain ⟨x, hx⟩ : ∃ x, s.getD i 0 = x := ⟨_, rfl⟩
                          rw [hx] at hget
                          have HXx := Lib.hid hx
                          clear HJ hi8 hx
                          go_wp2_with fail
                          have HB0 := Lib.hid (show AB .u8 tSum (w.heap.size + 1) (fl (outN s) (4 * i + 0)) wr from HA.out)
                          clear HA
                          go_loopg [71] 5 (fun g v71 w' => ∃ k : Nat, v71 = .int .i64 k ∧ Hid (k ≤ 4 ∧ 4 < g + k) ∧ Hid (AB .u8 tSum (w.heap.size + 1) (fl (outN s) (4 * i + k)) w') ∧ Hid (wr.grownBy w' (some (w.heap.size + 1))))
                          case atStart => exact ⟨0, rfl, Lib.hid ⟨by omega, by omega⟩, HB0, Lib.hid (World.grownBy.refl _ _)⟩
                          case round =>
                            obtain ⟨k, rfl, HK, HA, HGr2⟩ := hrel
                            clear HB0
                            cases gk with
                            | zero => have := HK.out; omega
                            | succ k5 =>
                              by_cases hk4 : k < 4
                              · have HK' := Lib.hid (show k < 4 ∧ 4 < (k5 + 1) + k from ⟨hk4, HK.out.2⟩)
                                have y1 : (0 : Int) ≤ (k : Int) := by omega
                                have y2 : (k : Int) < 4 := by omega
                                have hix := HJ'.out.1
                                have hll : 4 * i + k < (outN s).length := by rw [HOl.out]; omega
                                have hcc := HA.out.cell (i := 4 * i + k) (by rw [fl_length _ (Nat.le_of_lt hll)]; exact hll)
                                have hfz := HA.out.fz (4 * i + k)
                                clear HK hk4 hix hll
                                generalize (fl (outN s) (4 * i + k)).getD (4 * i + k) 0 = y at hcc
                                have HV := Lib.hid (show ((x : Int) / 2 ^ (24 - 8 * k) % 256) = (((outN s).getD (4 * i + k) 0 : Nat) : Int) from by
                                  rw [outN_get (by rw [HSs.out]; exact HJ'.out.1) HK'.out.1, HXx.out]
                                  simp)
                                go_wp2_with fail
                                go_roundg k5
                                case measure => have := HK'.out; omega
                                case rel => exact ⟨k + 1, by go_num, Lib.hid (by have := HK'.out; omega), Lib.hid (by
                                  rw [HV.out]
                                  have h := HA.out.set (4 * i + k) ((outN s).getD (4 * i + k) 0)
                                  rw [fl_step (by rw [HOl.out]; have := HJ'.out; have := HK'.out; omega)] at h
                                  exact h), Lib.hid (HGr2.out.trans (grown_set _ _ _ _))⟩
                              · have hk : k = 4 := by have := HK.out; omega
                                subst hk
                                clear hget
                                go_wp2_with fail
                                go_roundg k4
                                case measure => have := HJ'.out; omega
                                case rel => exact ⟨i + 1, by go_num, Lib.hid (by have := HJ'.out; omega), HA, Lib.hid (HGr.out.trans HGr2.out)⟩
                        · have hi : i = 8 := by have := HJ.out; omega
                          subst hi
                          have hA := HA.out
                          rw [show fl (outN s) (4 * 8) = shaN l from by
                            have := fl_all (outN s)
                            rw [HOl.out] at this
                            rw [show 4 * 8 = 32 from rfl, this, HPs.out]] at hA
                          have h2 := HA2.out.grown HGr.out (by intro e; injection e with e; omega)
                          have hbl := below_grown HBel.out HBel.out.size HGr.out (by omega)
                          obtain ⟨R, hR⟩ : ∃ R, shaN l = R := ⟨_, rfl⟩
                          have hRl := shaN_length l
                          rw [hR] at hA hRl
                          have HE := Lib.hid hA
                          have HE2 := Lib.hid h2
                          have HEl := Lib.hid hRl
                          have HRR := Lib.hid hR
                          have HEb := Lib.hid hbl
                          clear hA h2 hbl hRl hR HJ hi8
                          go_wp2_with (first
                            | (refine load_ab .u8 (w.heap.size + 1) R rfl rfl rfl HE.out Try.underlying29 (by rw [HEl.out]; exact info_sum) ?_)
                            | (refine store_ab .u8 w.heap.size z32 R rfl rfl rfl rfl rfl HE2.out (by rw [HEl.out]; exact info_sum) (by rw [HEl.out]; rfl) ?_; intro W9 h9 hg9; (have R9 := Lib.hid h9); (have RG9 := Lib.hid hg9); clear h9 hg9))
                          have hl := R9.out.load (P := Try.prog) Try.underlying29 (by rw [HEl.out]; exact info_sum)
                          have hb9 := below_grown HEb.out HEb.out.size RG9.out (Nat.le_refl _)
                          exact bodyPost_ret (v := .tuple #[.agg (arr .u8 R), .int .i64 0]) (by simp [results, Try.results17, hl, asAddr]) rfl ⟨by rw [HRR.out], hb9⟩
end Go.Proofs.Ytagfplcafeblbaa.H
