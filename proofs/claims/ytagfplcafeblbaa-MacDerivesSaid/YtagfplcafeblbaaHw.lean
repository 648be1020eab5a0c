/-
  sha: the document's root and Constants.
-/
import Derived.Test.YtagfplcafeblbaaHs
namespace Go.Proofs.Ytagfplcafeblbaa.H
open Go.RowKit Go.Proofs.Ytagfplcafeblbaa.L Go.Proofs.Ytagfplcafeblbaa.N Go.Proofs.YtagfplcafeblbaaW.PrintWords

theorem under_any (three : Bool) (x p : Nat) (w : World) (hx : x < 137438953472) (hp : p ≤ 1000) :
    Calls Try.prog 65 #[.int .u64 (x : Int), .int .u64 (p : Int), .bool three] w fun e w' => e = .returned (.bool (undN three p x)) ∧ Below w.heap.size w w' := by
  cases three
  · exact under_two x p w hx hp
  · exact under_three x p w hx hp
set_option maxRecDepth 100000 in
set_option maxHeartbeats 1600000 in
theorem root_any (three : Bool) (p : Nat) (w : World) (hp : p ≤ 1000) :
    Calls Try.prog 57 #[.int .u64 (p : Int), .bool three] w fun e w' => e = .returned (.int .u32 (rootN three p : Nat)) ∧ Below w.heap.size w w' := by
  obtain ⟨R, hR⟩ : ∃ R, bisN three p 37 0 137438953472 = R := ⟨_, rfl⟩
  obtain ⟨S, hS⟩ : ∃ S, R % 4294967296 = S := ⟨_, rfl⟩
  have HR := Lib.hid hR
  have hrn : rootN three p = S := by unfold rootN; rw [hR, hS]
  rw [hrn]
  have HU := Lib.hid (fun x W (h : x < 137438953472) => under_any three x p W h hp)
  have HS := Lib.hid hS
  have z1 : (p : Int) ≤ 1000 := by omega
  have z2 : (0 : Int) ≤ (p : Int) := by omega
  clear hR hS hrn hp
  go_enter Try.func57, Try.ntmps57
  go_wp2_with fail
  go_loopg [5, 6] 38 (fun g v5 v6 w' => ∃ f lo hi : Nat, v5 = .int .u64 (lo : Int) ∧ v6 = .int .u64 (hi : Int) ∧ Hid (bisN three p f lo hi = R) ∧ Hid (hi - lo ≤ 2 ^ f ∧ lo < hi ∧ hi ≤ 137438953472 ∧ f < g) ∧ Hid (Below w.heap.size w w'))
  case atStart => exact ⟨37, 0, 137438953472, rfl, rfl, HR, Lib.hid ⟨by decide, by decide, by decide, by decide⟩, Lib.hid (Below.refl _ _)⟩
  case round =>
    obtain ⟨f, lo, hi, rfl, rfl, HBs, HJ, HB⟩ := hrel
    clear HR
    cases gk with
    | zero => have := HJ.out; omega
    | succ k =>
      have y1 : (hi : Int) ≤ 137438953472 := by have := HJ.out; omega
      have y2 : (0 : Int) ≤ (lo : Int) := by omega
      have y3 : (lo : Int) < (hi : Int) := by have := HJ.out; omega
      by_cases hlt : lo + 1 < hi
      · cases f with
        | zero => have := HJ.out; omega
        | succ f =>
          obtain ⟨s, hs⟩ : ∃ s, lo + hi = s := ⟨_, rfl⟩
          obtain ⟨m, hm⟩ : ∃ m, s / 2 = m := ⟨_, rfl⟩
          have hbu := fun h => bis_up (three := three) (p := p) (f := f) hlt h
          have hbd := fun h => bis_down (three := three) (p := p) (f := f) hlt h
          rw [hs, hm] at hbu hbd
          have HJ' := Lib.hid (show hi - m ≤ 2 ^ f ∧ m - lo ≤ 2 ^ f ∧ lo < m ∧ m < hi ∧ hi ≤ 137438953472 ∧ f < k from by
            have h := HJ.out
            rw [Nat.pow_succ] at h
            omega)
          have hu := HU.out m wr (by have := HJ'.out; omega)
          have q1 : (lo : Int) + (hi : Int) = (s : Int) := by omega
          have q2 : (s : Int) / 2 = (m : Int) := by omega
          have q3 : (lo : Int) + 1 < (hi : Int) := by omega
          have q4 : (s : Int) ≤ 274877906944 := by omega
          have q5 : (0 : Int) ≤ (s : Int) := by omega
          cases hr : undN three p m with
          | true =>
            rw [hr] at hu
            have HBn := Lib.hid (show bisN three p f m hi = R from by rw [← hbu hr]; exact HBs.out)
            have HQ := Lib.hid hu
            clear hu hr hbu hbd hs hm hlt HJ HBs
            go_wp2_with fail
            refine HQ.out.mono ?_
            rintro e w2 ⟨rfl, hb2⟩
            have HB2 := Lib.hid (HB.out.trans (hb2.mono HB.out.size))
            clear hb2
            go_wp2_with fail
            go_roundg k
            case measure => have := HJ'.out; omega
            case rel => exact ⟨f, m, hi, rfl, rfl, HBn, Lib.hid (by have := HJ'.out; omega), HB2⟩
          | false =>
            rw [hr] at hu
            have HBn := Lib.hid (show bisN three p f lo m = R from by rw [← hbd hr]; exact HBs.out)
            have HQ := Lib.hid hu
            clear hu hr hbu hbd hs hm hlt HJ HBs
            go_wp2_with fail
            refine HQ.out.mono ?_
            rintro e w2 ⟨rfl, hb2⟩
            have HB2 := Lib.hid (HB.out.trans (hb2.mono HB.out.size))
            clear hb2
            go_wp2_with fail
            go_roundg k
            case measure => have := HJ'.out; omega
            case rel => exact ⟨f, lo, m, rfl, rfl, HBn, Lib.hid (by have := HJ'.out; omega), HB2⟩
      · have q3 : ¬ (lo : Int) + 1 < (hi : Int) := by omega
        have q4 : decide ((lo : Int) + 1 < (hi : Int)) = false := decide_eq_false q3
        have hR : lo = R := by rw [← HBs.out, bis_end hlt]
        have e1 : (lo : Int) % 4294967296 = (S : Int) := by have := HS.out; rw [← hR] at this; omega
        have q5 : (S : Int) < 4294967296 := by omega
        have q6 : (0 : Int) ≤ (S : Int) := by omega
        clear hR hlt HJ HBs HS
        go_wp2_with fail
        go_ret
        exact ⟨rfl, HB.out⟩

theorem take8_more {l : List Nat} {p : Nat} (h : l.length < 8) : (l ++ [p]).take 8 = l.take 8 ++ [p] := by
  rw [List.take_of_length_le (by simp; omega), List.take_of_length_le (by omega)]
theorem take8_same {l : List Nat} {p : Nat} (h : ¬ l.length < 8) : (l ++ [p]).take 8 = l.take 8 := by
  rw [List.take_append_of_le_length (by omega)]
def kP (p : Nat) : List Nat := (primesN p).map (rootN true)
def sP (p : Nat) : List Nat := ((primesN p).take 8).map (rootN false)
theorem kP_next {p : Nat} (h : primeN p = true) : kP (p + 1) = kP p ++ [rootN true p] := by unfold kP; rw [primesN, if_pos h, List.map_append]; rfl
theorem sP_next {p : Nat} (h : primeN p = true) (h8 : (kP p).length < 8) : sP (p + 1) = sP p ++ [rootN false p] := by
  unfold kP at h8
  rw [List.length_map] at h8
  unfold sP
  rw [primesN, if_pos h, take8_more h8, List.map_append]
  rfl
theorem sP_same {p : Nat} (h : primeN p = true) (h8 : ¬ (kP p).length < 8) : sP (p + 1) = sP p := by
  unfold kP at h8
  rw [List.length_map] at h8
  unfold sP
  rw [primesN, if_pos h, take8_same h8]
theorem kP_skip {p : Nat} (h : primeN p = false) : kP (p + 1) = kP p := by unfold kP; rw [primesN, if_neg (by rw [h]; decide)]
theorem sP_skip {p : Nat} (h : primeN p = false) : sP (p + 1) = sP p := by unfold sP; rw [primesN, if_neg (by rw [h]; decide)]
theorem sP_len (p : Nat) : (sP p).length = min 8 (kP p).length := by unfold sP kP; rw [List.length_map, List.length_take, List.length_map]
theorem kP_lt {p : Nat} (h : p < 312) : (kP p).length < 64 := by unfold kP; rw [List.length_map]; exact primes_lt h
theorem kP_all : kP 312 = kN := roots_k
theorem sP_all : sP 312 = begN := roots_s
theorem kP_two : kP 2 = [] := by decide
theorem sP_two : sP 2 = [] := by decide
set_option maxRecDepth 100000 in
set_option maxHeartbeats 6400000 in
theorem consts_any (w : World) : Calls Try.prog 42 #[] w fun e w' => ∃ v1 v2, e = .returned (.tuple #[v1, v2]) ∧ (Kd.int .u32).R 33 w' w.heap.size (fun _ => True) v1 (nat kN) ∧ (Kd.int .u32).R 33 w' w.heap.size (fun _ => True) v2 (nat begN) ∧ Below w.heap.size w w' := by
  have HK2 := Lib.hid kP_two
  have HS2 := Lib.hid sP_two
  go_enter Try.func42, Try.ntmps42
  go_wp2_with fail
  go_loopg [2, 3, 4] 311 (fun g v2 v3 v4 w' => ∃ p : Nat, v4 = .int .u64 (p : Int) ∧ Hid (p ≤ 312 ∧ 312 < g + p) ∧ Hid ((Kd.int .u32).R 33 w' w.heap.size (fun _ => True) v2 (nat (kP p))) ∧ Hid ((Kd.int .u32).R 33 w' w.heap.size (fun _ => True) v3 (nat (sP p))) ∧ Hid (Q.Ap v2 v3) ∧ Hid (Below w.heap.size w w'))
  case atStart => exact ⟨2, rfl, Lib.hid ⟨by omega, by omega⟩, Lib.hid (by rw [HK2.out]; exact Kd.R_nil _ _ _ _ _), Lib.hid (by rw [HS2.out]; exact Kd.R_nil _ _ _ _ _), Lib.hid (fun k h => by cases h), Lib.hid (Below.refl _ _)⟩
  case round =>
    obtain ⟨p, rfl, HJ, HK, HS, HA, HB⟩ := hrel
    clear HK2 HS2
    obtain ⟨A2, c2, hv2, hc2, hC2⟩ := Kd.R_reads HK.out
    obtain ⟨A3, c3, hv3, hc3, hC3⟩ := Kd.R_reads HS.out
    rw [nat_length] at hv2 hv3
    subst hv2
    subst hv3
    cases gk with
    | zero => have := HJ.out; omega
    | succ k =>
      have z1 : (p : Int) ≤ 312 := by have := HJ.out; omega
      have z2 : (0 : Int) ≤ (p : Int) := by omega
      have hls := sP_len p
      obtain ⟨m, hm⟩ : ∃ m, (sP p).length = m := ⟨_, rfl⟩
      by_cases hlt : p < 312
      · have HJ' := Lib.hid (show p < 312 ∧ 312 < (k + 1) + p from ⟨hlt, HJ.out.2⟩)
        have hn := kP_lt hlt
        have HPr := Lib.hid (prime_any p wr (by omega))
        cases hpr : primeN p with
        | false =>
          rw [hpr] at HPr
          have hk1 := kP_skip hpr
          have hs1 := sP_skip hpr
          have HK1 := Lib.hid (show (Kd.int .u32).R 33 wr w.heap.size (fun _ => True) (.slice A2 (kP p).length c2) (nat (kP (p + 1))) from by rw [hk1]; exact HK.out)
          have HS1 := Lib.hid (show (Kd.int .u32).R 33 wr w.heap.size (fun _ => True) (.slice A3 (sP p).length c3) (nat (sP (p + 1))) from by rw [hs1]; exact HS.out)
          obtain ⟨n, hnn⟩ : ∃ n, (kP p).length = n := ⟨_, rfl⟩
          rw [hnn] at hn HK1 HA
          rw [hm] at HS1 HA
          have t0 : (n : Int) < 64 := by omega
          have t1 : decide ((n : Int) < 64) = true := decide_eq_true t0
          have t2 : decide (n < 64) = true := decide_eq_true hn
          rw [hnn, hm]
          clear hpr hk1 hs1 hn hnn hm hls hlt HJ HK HS hc2 hC2 hc3 hC3
          go_wp2_with fail
          refine HPr.out.mono ?_
          rintro e w2 ⟨rfl, hw⟩
          rw [hw]
          clear hw w2 HPr
          go_wp2_with fail
          go_roundg k
          case measure => have := HJ'.out; omega
          case rel => exact ⟨p + 1, by go_num, Lib.hid (by have := HJ'.out; omega), HK1, HS1, HA, HB⟩
        | true =>
          rw [hpr] at HPr
          have HRt := Lib.hid (fun t W => root_any t p W (by omega))
          have HKx := Lib.hid (show nat (kP (p + 1)) = nat (kP p) ++ [((rootN true p : Nat) : Int)] from by rw [kP_next hpr, nat_app]; rfl)
          have HLk := Lib.hid (show (nat (kP p)).length < 64 from by rw [nat_length]; exact hn)
          have HLs := Lib.hid (show (nat (sP p)).length ≤ 8 from by rw [nat_length]; omega)
          obtain ⟨rk, hrk⟩ : ∃ r, rootN true p = r := ⟨_, rfl⟩
          rw [hrk] at HKx
          have HRk := Lib.hid (fun W => by have := HRt.out true W; rwa [hrk] at this)
          by_cases h8 : (kP p).length < 8
          · have HSx := Lib.hid (show nat (sP (p + 1)) = nat (sP p) ++ [((rootN false p : Nat) : Int)] from by rw [sP_next hpr h8, nat_app]; rfl)
            obtain ⟨rs, hrs⟩ : ∃ r, rootN false p = r := ⟨_, rfl⟩
            rw [hrs] at HSx
            have HRs := Lib.hid (fun W => by have := HRt.out false W; rwa [hrs] at this)
            obtain ⟨n, hnn⟩ : ∃ n, (kP p).length = n := ⟨_, rfl⟩
            rw [hnn] at hn HK HA h8 hls
            rw [hm] at HS HA hls
            have t0 : (n : Int) < 64 := by omega
            have t1 : decide ((n : Int) < 64) = true := decide_eq_true t0
            have t2 : decide (n < 64) = true := decide_eq_true hn
            have t3 : (m : Int) < 8 := by omega
            have t4 : decide ((m : Int) < 8) = true := decide_eq_true t3
            have t5 : decide (m < 8) = true := decide_eq_true (by omega)
            rw [hnn, hm]
            clear hpr hn hnn hm hls hlt HJ hc2 hC2 hc3 hC3 h8 hrk hrs HRt
            generalize nat (kP p) = K0 at *
            generalize nat (sP p) = S0 at *
            go_wp2_with fail
            refine HPr.out.mono ?_
            rintro e w2 ⟨rfl, hw⟩
            rw [hw]
            clear hw w2 HPr
            go_wp2_with fail
            refine (HRk.out _).mono ?_
            rintro e w3 ⟨rfl, hb3⟩
            have HK3 := Lib.hid (Kd.R_below HK.out hb3)
            have HS3 := Lib.hid (Kd.R_below HS.out hb3)
            have HB3 := Lib.hid (HB.out.trans (hb3.mono HB.out.size))
            clear hb3 HK HS HB HRk
            go_upto_region 7 with (at_builtin; refine app1a (w0 := w) .u32 w.heap.size (.tmp 13) (.tmp 16) 86 33 4 rfl rfl Try.underlying86 info_w32 (by decide) (.slice A2 n c2) K0 (rk : Int) rfl rfl HK3.out HB3.out HB3.out.size (by have := HLk.out; omega) ?_; intro v8 w8 hr8 hb8 hg8 hat8; (have HR8 := Lib.hid hr8); (have HB8 := Lib.hid hb8); (have HG8 := Lib.hid hg8); (have HAt8 := Lib.hid hat8); clear hr8 hb8 hg8 hat8)
            have HK8 := Lib.hid (show (Kd.int .u32).R 33 w8 w.heap.size (fun _ => True) v8 (nat (kP (p + 1))) from by rw [HKx.out]; exact HR8.out)
            have HS8 := Lib.hid (Q.R_apart HS3.out HA.out.symm HG8.out)
            have HA8 := Lib.hid (HA.out.step (W := w3) HAt8.out (Kd.R_lt HS3.out))
            clear HK3 HS3 HB3 HA HG8 HAt8 HR8 HKx
            go_wp2_with fail
            refine (HRs.out _).mono ?_
            rintro e w9 ⟨rfl, hb9⟩
            have HK9 := Lib.hid (Kd.R_below HK8.out hb9)
            have HS9 := Lib.hid (Kd.R_below HS8.out hb9)
            have HB9 := Lib.hid (HB8.out.trans (hb9.mono HB8.out.size))
            clear hb9 HK8 HS8 HB8 HRs
            go_wp2_with (at_builtin; refine app1a (w0 := w) .u32 w.heap.size (.tmp 21) (.tmp 24) 86 33 4 rfl rfl Try.underlying86 info_w32 (by decide) (.slice A3 m c3) S0 (rs : Int) rfl rfl HS9.out HB9.out HB9.out.size (by have := HLs.out; omega) ?_; intro v10 w10 hr10 hb10 hg10 hat10; (have HR10 := Lib.hid hr10); (have HB10 := Lib.hid hb10); (have HG10 := Lib.hid hg10); (have HAt10 := Lib.hid hat10); clear hr10 hb10 hg10 hat10)
            have HSa := Lib.hid (show (Kd.int .u32).R 33 w10 w.heap.size (fun _ => True) v10 (nat (sP (p + 1))) from by rw [HSx.out]; exact HR10.out)
            have HKa := Lib.hid (Q.R_apart HK9.out HA8.out HG10.out)
            have HAa := (HA8.out.symm.step (W := w9) HAt10.out (Kd.R_lt HK9.out)).symm
            have HAa := Lib.hid HAa
            clear HK9 HS9 HB9 HA8 HG10 HAt10 HR10 HSx
            go_roundg k
            case measure => have := HJ'.out; omega
            case rel => exact ⟨p + 1, by go_num, Lib.hid (by have := HJ'.out; omega), HKa, HSa, HAa, HB10⟩
          · have HSx := Lib.hid (show nat (sP (p + 1)) = nat (sP p) from by rw [sP_same hpr h8])
            obtain ⟨n, hnn⟩ : ∃ n, (kP p).length = n := ⟨_, rfl⟩
            rw [hnn] at hn HK HA h8 hls
            rw [hm] at HS HA hls
            have t0 : (n : Int) < 64 := by omega
            have t1 : decide ((n : Int) < 64) = true := decide_eq_true t0
            have t2 : decide (n < 64) = true := decide_eq_true hn
            have t3 : ¬ (m : Int) < 8 := by omega
            have t4 : decide ((m : Int) < 8) = false := decide_eq_false t3
            have t5 : decide (m < 8) = false := decide_eq_false (by omega)
            rw [hnn, hm]
            clear hpr hn hnn hm hls hlt HJ hc2 hC2 hc3 hC3 h8 hrk HRt
            generalize nat (kP p) = K0 at *
            generalize nat (sP p) = S0 at *
            go_wp2_with fail
            refine HPr.out.mono ?_
            rintro e w2 ⟨rfl, hw⟩
            rw [hw]
            clear hw w2 HPr
            go_wp2_with fail
            refine (HRk.out _).mono ?_
            rintro e w3 ⟨rfl, hb3⟩
            have HK3 := Lib.hid (Kd.R_below HK.out hb3)
            have HS3 := Lib.hid (Kd.R_below HS.out hb3)
            have HB3 := Lib.hid (HB.out.trans (hb3.mono HB.out.size))
            clear hb3 HK HS HB HRk
            go_wp2_with (at_builtin; refine app1a (w0 := w) .u32 w.heap.size (.tmp 13) (.tmp 16) 86 33 4 rfl rfl Try.underlying86 info_w32 (by decide) (.slice A2 n c2) K0 (rk : Int) rfl rfl HK3.out HB3.out HB3.out.size (by have := HLk.out; omega) ?_; intro v8 w8 hr8 hb8 hg8 hat8; (have HR8 := Lib.hid hr8); (have HB8 := Lib.hid hb8); (have HG8 := Lib.hid hg8); (have HAt8 := Lib.hid hat8); clear hr8 hb8 hg8 hat8)
            have HK8 := Lib.hid (show (Kd.int .u32).R 33 w8 w.heap.size (fun _ => True) v8 (nat (kP (p + 1))) from by rw [HKx.out]; exact HR8.out)
            have HS8 := Lib.hid (show (Kd.int .u32).R 33 w8 w.heap.size (fun _ => True) (.slice A3 m c3) (nat (sP (p + 1))) from by rw [HSx.out]; exact Q.R_apart HS3.out HA.out.symm HG8.out)
            have HA8 := Lib.hid (HA.out.step (W := w3) HAt8.out (Kd.R_lt HS3.out))
            clear HK3 HS3 HB3 HA HG8 HAt8 HR8 HKx HSx
            go_roundg k
            case measure => have := HJ'.out; omega
            case rel => exact ⟨p + 1, by go_num, Lib.hid (by have := HJ'.out; omega), HK8, HS8, HA8, HB8⟩
      · obtain rfl : p = 312 := by have := HJ.out; omega
        have HKe := Lib.hid (show (Kd.int .u32).R 33 wr w.heap.size (fun _ => True) (.slice A2 64 c2) (nat kN) from by have := HK.out; rwa [kP_all] at this)
        have HSe := Lib.hid (show (Kd.int .u32).R 33 wr w.heap.size (fun _ => True) (.slice A3 8 c3) (nat begN) from by have := HS.out; rwa [sP_all] at this)
        have e1 : (kP 312).length = 64 := by rw [kP_all]; rfl
        have e2 : (sP 312).length = 8 := by rw [sP_all]; rfl
        rw [e1, e2]
        clear e1 e2 HK HS HA hlt HJ hls hm hc2 hC2 hc3 hC3
        go_wp2_with fail
        exact bodyPost_ret (v := .tuple #[.slice A2 64 c2, .slice A3 8 c3]) (by simp [results, Try.results42]) rfl ⟨_, _, rfl, HKe.out, HSe.out, HB.out⟩
end Go.Proofs.Ytagfplcafeblbaa.H
