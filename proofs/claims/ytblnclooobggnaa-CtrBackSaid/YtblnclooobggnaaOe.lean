/-
  ctr: CtrApart.
-/
import Derived.Test.YtblnclooobggnaaOd
namespace Go.Proofs.Ytblnclooobggnaa.A
open Go.RowKit Go.Proofs.Ytblnclooobggnaa.L Go.Proofs.Ytblnclooobggnaa.N Go.Proofs.YtblnclooobggnaaW.PrintWords

theorem C_grown {w w1 : World} {A : Option Addr} {l : List Nat} {c : Nat} (h : (Kd.int .u8).C w A l.length (nat l)) (hA : 0 < l.length → ∀ ad, A = some ad → ad.block ≠ c) (hg : w.grownBy w1 (some c)) : (Kd.int .u8).C w1 A l.length (nat l) := by
  by_cases h0 : l.length = 0
  · exact ⟨h.1, h.2.1, fun hp => absurd hp (by omega)⟩
  · obtain ⟨b9, o9, e9, h9, _⟩ := B_at h (by omega)
    refine C_move h (fun ad e => ?_)
    rw [e9] at e
    injection e with e
    subst e
    exact hg.block b9 h9 (fun e => hA (by omega) _ e9 (by injection e))
theorem C_n {w : World} {A : Option Addr} {l : List Nat} {n : Nat} (h : (Kd.int .u8).C w A l.length (nat l)) (hl : l.length = n) : (Kd.int .u8).C w A n (nat l) := hl ▸ h
theorem str_ne {a b : List Nat} (ha : ∀ x ∈ a, x < 256) (hb : ∀ x ∈ b, x < 256) (h : a ≠ b) : (¬ (strOfNums (nat a)).toList = (strOfNums (nat b)).toList) ∧ ((strOfNums (nat a)).toList == (strOfNums (nat b)).toList) = false := by
  have h1 : ¬ (strOfNums (nat a)).toList = (strOfNums (nat b)).toList := fun e => by
    rw [ByteArray.toList_eq, ByteArray.toList_eq, strOfNums_data, strOfNums_data] at e
    exact h (map_inj8 ha hb e)
  exact ⟨h1, beq_eq_false_iff_ne.2 h1⟩
theorem str16' {A : Option Addr} {c : Nat} {l : List Nat} {w : World} (h : (Kd.int .u8).C w A l.length (nat l)) (hl : l.length = 16) : (convert 41 9 (.slice A 16 c)).run Try.prog w = .ok (.string (strOfNums (nat l))) w := by
  have := strC (c := c) h
  rwa [hl] at this
set_option maxRecDepth 100000 in
set_option maxHeartbeats 6400000 in
theorem ctrapart_nat (key : List Nat) (a b i k : Nat) (w : World) (hk : key.length = 16) (hk8 : ∀ z ∈ key, z < 256) (ha : a < 18446744073709551616) (hb : b < 18446744073709551616) (hi : i < 256) (hi2 : k < 256) :
    Calls Try.prog 8 #[.agg (arr .u8 key), .int .u64 (a : Int), .int .u64 (b : Int), .int .u8 (i : Int), .int .u8 (k : Int)] w fun e w' => e = .returned (.bool true) ∧ Below w.heap.size w w' := by
  have HK := Lib.hid hk
  have HA1 := Lib.hid (fun p c W (h : ST p c key 0 W) => at_any p c 0 a (16 * i) 16 key W h (by decide) ha (by omega) (by omega) hk hk8)
  have HA2 := Lib.hid (fun p c W (h : ST p c key (0 + cntN (16 * i) 16) W) => at_any p c (0 + cntN (16 * i) 16) b (16 * k) 16 key W h (by have := cnt_small (a := 16 * i) (len := 16) (by omega) (by omega); omega) hb (by omega) (by omega) hk hk8)
  have hX := atN_blk key a i
  have hY := atN_blk key b k
  have HX8 := Lib.hid (blkN_lt hk8 a i)
  have HY8 := Lib.hid (blkN_lt hk8 b k)
  have HXl := Lib.hid (blkN_len key a i)
  have HYl := Lib.hid (blkN_len key b k)
  have HI := Lib.hid (blk_inj (key := key) hk8 (n := a) (m := b) (i := i) (k := k) (by simpa using ha) (by simpa using hb) (by omega) (by omega))
  simp only [hX] at HA1
  simp only [hY] at HA2
  have e1 : 16 * (i : Int) = ((16 * i : Nat) : Int) := by omega
  have e2 : 16 * (k : Int) = ((16 * k : Nat) : Int) := by omega
  have y1 : (i : Int) < 256 := by omega
  have y2 : (k : Int) < 256 := by omega
  have y3 : (0 : Int) ≤ (i : Int) := by omega
  have y4 : (0 : Int) ≤ (k : Int) := by omega
  have y5 : ((16 * i : Nat) : Int) ≤ 4080 := by omega
  have y6 : ((16 * k : Nat) : Int) ≤ 4080 := by omega
  have y7 : (0 : Int) ≤ ((16 * i : Nat) : Int) := by omega
  have y8 : (0 : Int) ≤ ((16 * k : Nat) : Int) := by omega
  generalize cntN (16 * i) 16 = t1 at *
  generalize cntN (16 * k) 16 = t2 at *
  generalize 16 * i = i6 at *
  generalize 16 * k = k6 at *
  obtain ⟨X, hXe⟩ : ∃ X, blkN key a i = X := ⟨_, rfl⟩
  obtain ⟨Y, hYe⟩ : ∃ Y, blkN key b k = Y := ⟨_, rfl⟩
  rw [hXe] at HA1 HX8 HXl HI
  rw [hYe] at HA2 HY8 HYl HI
  clear hk hk8 ha hb hi hi2 hX hY hXe hYe
  have HC : Hid ((X = Y ∧ ((a : Int) == (b : Int)) = true ∧ ((i : Int) == (k : Int)) = true ∧ decide ((a : Int) = (b : Int)) = true ∧ decide ((i : Int) = (k : Int)) = true ∧ (a : Int) = (b : Int) ∧ (i : Int) = (k : Int)) ∨ (X ≠ Y ∧ ((a : Int) == (b : Int)) = true ∧ ((i : Int) == (k : Int)) = false ∧ decide ((a : Int) = (b : Int)) = true ∧ decide ((i : Int) = (k : Int)) = false ∧ (a : Int) = (b : Int) ∧ ¬ (i : Int) = (k : Int)) ∨ (X ≠ Y ∧ ((a : Int) == (b : Int)) = false ∧ decide ((a : Int) = (b : Int)) = false ∧ ¬ (a : Int) = (b : Int))) := by
    apply Lib.hid
    by_cases h1 : a = b
    · by_cases h2 : i = k
      · exact .inl ⟨HI.out.2 ⟨h1, h2⟩, beq_iff_eq.2 (by omega), beq_iff_eq.2 (by omega), decide_eq_true (by omega), decide_eq_true (by omega), by omega, by omega⟩
      · exact .inr (.inl ⟨fun e => h2 (HI.out.1 e).2, beq_iff_eq.2 (by omega), beq_eq_false_iff_ne.2 (by omega), decide_eq_true (by omega), decide_eq_false (by omega), by omega, by omega⟩)
    · exact .inr (.inr ⟨fun e => h1 (HI.out.1 e).1, beq_eq_false_iff_ne.2 (by omega), decide_eq_false (by omega), by omega⟩)
  clear HI
  go_enter Try.func8, Try.ntmps8
  go_upto_region 1 with (fail)
  refine wp_at fun W hW => ?_
  have HKW := Lib.hid (show AB .u8 27 w.heap.size key W from by rw [hW]; exact AB.mk w .u8 _ key)
  have HBW := Lib.hid (show Below w.heap.size w W from by rw [hW]; exact (Below.refl _ _).alloc (Nat.le_refl _) _)
  clear hW
  go_upto_region 2 with (first
    | (refine load_ab .u8 w.heap.size key rfl rfl rfl HKW.out Try.underlying27 (by rw [HK.out]; exact info_key) ?_)
    | (go_at_call 24; refine (newctr_any key W HK.out).mono ?_; rintro e w3 ⟨p, c, rfl, hc0, hp0, hst, hb1⟩; (have HC0 := Lib.hid hc0); (have HST := Lib.hid hst); (have HB1 := Lib.hid (HBW.out.trans (hb1.mono HBW.out.size))); clear hc0 hp0 hst hb1))
  have HA1' := Lib.hid (HA1.out p c w3 HST.out)
  clear HA1
  go_upto_region 3 with (go_at_call 26; refine HA1'.out.mono ?_; rintro e w5 ⟨v1, rfl, hrv, hcu, hg⟩; (have HRV := Lib.hid hrv); (have HST5 := Lib.hid (HST.out.turned hg hcu)); (have HB5 := Lib.hid (below_grown HB1.out HB1.out.size hg (by have := HBW.out.size; have := HC0.out; omega))); clear hrv hcu hg)
  obtain ⟨A1, c1, hv1, hcc1, hC1, hA1⟩ := HRV.out.open
  rw [HXl.out] at hv1
  subst hv1
  have HC1 := Lib.hid hC1
  have HAp := Lib.hid (fun ad (e : A1 = some ad) => show ad.block ≠ c from by have := hA1 ad e; have := HST.out.cu.lt; omega)
  have HA2' := Lib.hid (HA2.out p c w5 HST5.out)
  clear HA2 HRV hcc1 hC1 hA1 HA1' HKW
  go_upto_region 4 with (go_at_call 26; refine HA2'.out.mono ?_; rintro e w7 ⟨v2, rfl, hrv, hcu, hg⟩; (have HRV := Lib.hid hrv); (have HC17 := Lib.hid (C_grown HC1.out (fun _ => HAp.out) hg)); (have HB7 := Lib.hid (below_grown HB5.out HB5.out.size hg (by have := HBW.out.size; have := HC0.out; omega))); clear hrv hcu hg)
  obtain ⟨A2, c2, hv2, hcc2, hC2, hA2⟩ := HRV.out.open
  rw [HYl.out] at hv2
  subst hv2
  have HC2 := Lib.hid hC2
  clear HRV hcc2 hC2 hA2 HA2' HC1 HST HST5 HB5 HB1 HC0 HBW HAp
  have HAl := Lib.hid (alive06_any w7)
  go_wp2_with fail
  refine HAl.out.mono ?_
  rintro e w8 ⟨rfl, hb8⟩
  have HB8 := Lib.hid (HB7.out.trans (hb8.mono HB7.out.size))
  have q1 := str16' (c := c1) (Kd.C_below HC17.out hb8) HXl.out
  have q2 := str16' (c := c2) (Kd.C_below HC2.out hb8) HYl.out
  clear hb8 HAl HB7 HC17 HC2
  rcases HC.out with ⟨hxy, b1, b2, b3, b4, b5, b6⟩ | ⟨hxy, b1, b2, b3, b4, b5, b6⟩ | ⟨hxy, b1, b2, b3⟩
  · subst hxy
    clear HC
    go_wp2_with fail
    go_ret
    exact ⟨rfl, HB8.out⟩
  · obtain ⟨hn1, hn2⟩ := str_ne HX8.out HY8.out hxy
    clear HC hxy
    go_wp2_with fail
    go_ret
    exact ⟨rfl, HB8.out⟩
  · obtain ⟨hn1, hn2⟩ := str_ne HX8.out HY8.out hxy
    clear HC hxy
    go_wp2_with fail
    go_ret
    exact ⟨rfl, HB8.out⟩
theorem ctrapart_walk (key : List Nat) (a b i k : Int) (w : World) (hk : key.length = 16) (hk8 : ∀ z ∈ key, z < 256) (ha : 0 ≤ a ∧ a < 18446744073709551616) (hb : 0 ≤ b ∧ b < 18446744073709551616) (hi : 0 ≤ i ∧ i < 256) (hi2 : 0 ≤ k ∧ k < 256) :
    Calls Try.prog 8 #[.agg (arr .u8 key), .int .u64 a, .int .u64 b, .int .u8 i, .int .u8 k] w fun e w' => e = .returned (.bool true) ∧ Below w.heap.size w w' := by
  obtain ⟨a, rfl⟩ : ∃ n : Nat, a = (n : Int) := ⟨a.toNat, by omega⟩
  obtain ⟨b, rfl⟩ : ∃ n : Nat, b = (n : Int) := ⟨b.toNat, by omega⟩
  obtain ⟨i, rfl⟩ : ∃ n : Nat, i = (n : Int) := ⟨i.toNat, by omega⟩
  obtain ⟨k, rfl⟩ : ∃ n : Nat, k = (n : Int) := ⟨k.toNat, by omega⟩
  exact ctrapart_nat key a b i k w hk hk8 (by omega) (by omega) (by omega) (by omega)
end Go.Proofs.Ytblnclooobggnaa.A
