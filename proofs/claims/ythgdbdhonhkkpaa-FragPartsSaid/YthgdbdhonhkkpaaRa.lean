/-
  vint, the reference: Size and Put.
-/
import Derived.Test.YthgdbdhonhkkpaaVd
import Derived.Test.YthgdbdhonhkkpaaSc
namespace Go.Proofs.Ythgdbdhonhkkpaa.V
open Go.RowKit Go.Proofs.Ythgdbdhonhkkpaa.L Go.Proofs.YthgdbdhonhkkpaaW.PrintWords

theorem rinfo_u8 : (Try.prog.info? 5).map (fun i => (i.zero, i.size, i.bytes)) = some (some (.int .u8 0), 1, 1) := by kernel_rfl
set_option maxRecDepth 100000 in
theorem rsize_any (v : Int) (w : World) : Calls Try.prog 105 #[.int .u64 v] w fun e w' => e = .returned (.int .i64 (siz v)) ∧ w = w' := by
  by_cases h1 : v < 64
  · rw [siz1 h1]
    go_enter Try.func105, Try.ntmps105
    go_wp2
    go_ret
    exact ⟨rfl, rfl⟩
  by_cases h2 : v < 16384
  · rw [siz2 (by omega) h2]
    go_enter Try.func105, Try.ntmps105
    go_wp2
    go_ret
    exact ⟨rfl, rfl⟩
  by_cases h3 : v < 1073741824
  · rw [siz4 (by omega) h3]
    go_enter Try.func105, Try.ntmps105
    go_wp2
    go_ret
    exact ⟨rfl, rfl⟩
  by_cases h4 : v < 4611686018427387904
  · rw [siz8 (by omega) h4]
    go_enter Try.func105, Try.ntmps105
    go_wp2
    go_ret
    exact ⟨rfl, rfl⟩
  · rw [siz0 (by omega)]
    go_enter Try.func105, Try.ntmps105
    go_wp2
    go_ret
    exact ⟨rfl, rfl⟩

/-- the k low bytes, the greatest first -/
def lowR : Nat → Int → List Int
  | 0, _ => []
  | k + 1, v => (v / 256 ^ k % 256) :: lowR k v
theorem lowR_len (k : Nat) (v : Int) : (lowR k v).length = k := by induction k with
  | zero => rfl
  | succ k ih => simp [lowR, ih]
theorem div_pow (v : Int) (k : Nat) : v / 256 ^ k / 256 = v / 256 ^ (k + 1) := by
  rw [Int.ediv_ediv_of_nonneg (Int.pow_nonneg (by decide)), Int.pow_succ]
theorem nonneg_pow {v : Int} (h : 0 ≤ v) (k : Nat) : 0 ≤ v / 256 ^ k := Int.ediv_nonneg h (Int.pow_nonneg (by decide))

set_option maxHeartbeats 1600000 in
set_option maxRecDepth 100000 in
theorem rput0 (v : Int) (w : World) (h0 : 4611686018427387904 ≤ v) : Calls Try.prog 62 #[.int .u64 v] w fun e w' => ∃ v0 : Value, e = .returned v0 ∧ (Kd.int .u8).R 5 w' w.heap.size (fun _ => True) v0 (putL v) ∧ Below w.heap.size w w' := by
  have hv : 0 ≤ v := by omega
  have hsz := fun (w : World) => rsize_any v w
  rw [siz0 h0] at hsz
  have HS := Lib.hid hsz
  have HV := Lib.hid hv
  clear hsz
  go_enter Try.func62, Try.ntmps62
  go_wp2
  go_loopg [3, 4, 5] 1 (fun g v3 v4 v5 w' => ∃ (k : Nat) (r : Int) (xs : List Int), v5 = .int .i64 k ∧ v4 = .int .u64 r ∧ Hid (k ≤ 0 ∧ 0 < g + k ∧ xs = lowR k v ∧ r = v / 256 ^ k) ∧ Hid ((Kd.int .u8).R 5 w' w.heap.size (fun _ => True) v3 xs) ∧ Hid (Below w.heap.size w w'))
  case atStart => exact ⟨0, v, [], rfl, rfl, Lib.hid ⟨by omega, by omega, rfl, by simp⟩, Lib.hid (Kd.R_nil _ _ _ _ _), Lib.hid (Below.refl _ _)⟩
  case round =>
    obtain ⟨k, r, xs, rfl, rfl, HN, HO, HB⟩ := hrel
    cases gk with
    | zero => have := HN.out; omega
    | succ g =>
      have hk : k ≤ 0 := HN.out.1
      have hr0 : 0 ≤ r := by have := HN.out.2.2.2; have := nonneg_pow HV.out k; omega
      have hr1 : r ≤ v := by rw [HN.out.2.2.2]; exact Int.ediv_le_self _ HV.out
      by_cases hlt : k < 0
      · omega
      · have hk' : k = 0 := by omega
        subst hk'
        have hx := HN.out.2.2.1
        clear HN hlt
        go_wp2_with (go_at_call 105; refine (HS.out _).mono ?_; rintro e w1 ⟨rfl, rfl⟩)
        all_goals refine wp_loop_rounds 1 ?_
        rw [rounds_succ]
        subst hx
        obtain ⟨A3, c3, rfl, hc3, hC3⟩ := Kd.R_reads HO.out
        have hh : (lowR 0 v).length = 0 := rfl
        go_wp2
        go_ret
        refine ⟨_, rfl, ?_, HB.out⟩
        rw [show putL v = lowR 0 v from by unfold putL lowR; rw [if_neg (by omega), if_neg (by omega), if_neg (by omega), if_neg (by omega)]]
        exact HO.out

set_option maxHeartbeats 1600000 in
set_option maxRecDepth 100000 in
theorem rput1 (v : Int) (w : World) (h0 : 0 ≤ v) (h : v < 64) : Calls Try.prog 62 #[.int .u64 v] w fun e w' => ∃ v0 : Value, e = .returned v0 ∧ (Kd.int .u8).R 5 w' w.heap.size (fun _ => True) v0 (putL v) ∧ Below w.heap.size w w' := by
  have hv : 0 ≤ v := by omega
  have hsz := fun (w : World) => rsize_any v w
  rw [siz1 h] at hsz
  have HS := Lib.hid hsz
  have HV := Lib.hid hv
  clear hsz
  go_enter Try.func62, Try.ntmps62
  go_wp2
  go_loopg [3, 4, 5] 2 (fun g v3 v4 v5 w' => ∃ (k : Nat) (r : Int) (xs : List Int), v5 = .int .i64 k ∧ v4 = .int .u64 r ∧ Hid (k ≤ 1 ∧ 1 < g + k ∧ xs = lowR k v ∧ r = v / 256 ^ k) ∧ Hid ((Kd.int .u8).R 5 w' w.heap.size (fun _ => True) v3 xs) ∧ Hid (Below w.heap.size w w'))
  case atStart => exact ⟨0, v, [], rfl, rfl, Lib.hid ⟨by omega, by omega, rfl, by simp⟩, Lib.hid (Kd.R_nil _ _ _ _ _), Lib.hid (Below.refl _ _)⟩
  case round =>
    obtain ⟨k, r, xs, rfl, rfl, HN, HO, HB⟩ := hrel
    cases gk with
    | zero => have := HN.out; omega
    | succ g =>
      have hk : k ≤ 1 := HN.out.1
      have hr0 : 0 ≤ r := by have := HN.out.2.2.2; have := nonneg_pow HV.out k; omega
      have hr1 : r ≤ v := by rw [HN.out.2.2.2]; exact Int.ediv_le_self _ HV.out
      by_cases hlt : k < 1
      · go_wp2_with (first
          | (go_at_call 105; refine (HS.out _).mono ?_; rintro e w1 ⟨rfl, rfl⟩)
          | (at_builtin; obtain ⟨A3, c3, rfl, hc3, hC3⟩ := Kd.R_reads HO.out; refine appn (w0 := w) .u8 w.heap.size (.tmp 18) (.tmp 19) 23 5 1 rfl rfl Try.underlying23 rinfo_u8 (by decide) (.slice (some ⟨wr.heap.size, 0, none⟩) 1 1) [r % 256] xs _ _ _ rfl rfl (R_of_blk (l := [r % 256]) (heap_alloc_new _ _) HB.out.size (by simp [maxLen])) (Kd.C_alloc hC3 _) (HB.out.alloc HB.out.size _) (Nat.le_trans HB.out.size (by simp)) (by have := HN.out.2.2.1; rw [this, lowR_len]; simp; omega) ?_; intro v1 w1 ho1 hb1 _; (have HO1 := Lib.hid ho1); (have HB1 := Lib.hid hb1); clear ho1 hb1))
        go_roundg g
        case measure => omega
        case rel => exact ⟨k + 1, r / 256, _, by go_num, rfl, Lib.hid ⟨by omega, by have := HN.out; omega, by have := HN.out; rw [this.2.2.2, this.2.2.1]; rfl, by have := HN.out; rw [this.2.2.2, div_pow]⟩, HO1, HB1⟩
      · have hk' : k = 1 := by omega
        subst hk'
        have hx := HN.out.2.2.1
        clear HN hlt
        go_wp2_with (go_at_call 105; refine (HS.out _).mono ?_; rintro e w1 ⟨rfl, rfl⟩)
        refine wp_loop_rounds 1 ?_
        obtain ⟨g0, c3, rfl, hg0, hg1, _⟩ := Kd.R_form HO.out (by rw [hx]; simp [lowR])
        have hlen : xs.length = 1 := by rw [hx]; exact lowR_len _ _
        have hcell := Kd.R_cell (0 : Int) HO.out 0 (by omega) (by omega)
        have hfin : xs.set 0 (rdOf 0 xs 0) = putL v := by
          rw [hx]
          unfold putL
          rw [if_pos (by omega)]
          simp [lowR, rdOf]
          try omega
        have hrd : 0 ≤ rdOf 0 xs 0 ∧ rdOf 0 xs 0 + 0 < 256 := by
          rw [hx]; simp [lowR, rdOf]; omega
        obtain ⟨hc0, hf0⟩ := hcell
        have HFIN := Lib.hid hfin
        rw [hlen] at HO ⊢
        clear hx hfin
        generalize rdOf 0 xs 0 = x0 at hc0 HFIN hrd
        simp only [Int.toNat_zero] at hc0 hf0
        rw [rounds_succ]
        go_wp2
        go_ret
        refine ⟨_, rfl, ?_, HB.out.setCell hg0 _⟩
        have hp := Kd.R_put (show (Kd.int .u8).R _ _ _ _ (.slice (some ⟨g0, 0, none⟩) xs.length c3) xs by rw [hlen]; exact HO.out) 0 (x0)
        rw [hlen] at hp
        rw [← HFIN.out]
        exact hp.1

set_option maxHeartbeats 1600000 in
set_option maxRecDepth 100000 in
theorem rput2 (v : Int) (w : World) (h0 : 64 ≤ v) (h : v < 16384) : Calls Try.prog 62 #[.int .u64 v] w fun e w' => ∃ v0 : Value, e = .returned v0 ∧ (Kd.int .u8).R 5 w' w.heap.size (fun _ => True) v0 (putL v) ∧ Below w.heap.size w w' := by
  have hv : 0 ≤ v := by omega
  have hsz := fun (w : World) => rsize_any v w
  rw [siz2 h0 h] at hsz
  have HS := Lib.hid hsz
  have HV := Lib.hid hv
  clear hsz
  go_enter Try.func62, Try.ntmps62
  go_wp2
  go_loopg [3, 4, 5] 3 (fun g v3 v4 v5 w' => ∃ (k : Nat) (r : Int) (xs : List Int), v5 = .int .i64 k ∧ v4 = .int .u64 r ∧ Hid (k ≤ 2 ∧ 2 < g + k ∧ xs = lowR k v ∧ r = v / 256 ^ k) ∧ Hid ((Kd.int .u8).R 5 w' w.heap.size (fun _ => True) v3 xs) ∧ Hid (Below w.heap.size w w'))
  case atStart => exact ⟨0, v, [], rfl, rfl, Lib.hid ⟨by omega, by omega, rfl, by simp⟩, Lib.hid (Kd.R_nil _ _ _ _ _), Lib.hid (Below.refl _ _)⟩
  case round =>
    obtain ⟨k, r, xs, rfl, rfl, HN, HO, HB⟩ := hrel
    cases gk with
    | zero => have := HN.out; omega
    | succ g =>
      have hk : k ≤ 2 := HN.out.1
      have hr0 : 0 ≤ r := by have := HN.out.2.2.2; have := nonneg_pow HV.out k; omega
      have hr1 : r ≤ v := by rw [HN.out.2.2.2]; exact Int.ediv_le_self _ HV.out
      by_cases hlt : k < 2
      · go_wp2_with (first
          | (go_at_call 105; refine (HS.out _).mono ?_; rintro e w1 ⟨rfl, rfl⟩)
          | (at_builtin; obtain ⟨A3, c3, rfl, hc3, hC3⟩ := Kd.R_reads HO.out; refine appn (w0 := w) .u8 w.heap.size (.tmp 18) (.tmp 19) 23 5 1 rfl rfl Try.underlying23 rinfo_u8 (by decide) (.slice (some ⟨wr.heap.size, 0, none⟩) 1 1) [r % 256] xs _ _ _ rfl rfl (R_of_blk (l := [r % 256]) (heap_alloc_new _ _) HB.out.size (by simp [maxLen])) (Kd.C_alloc hC3 _) (HB.out.alloc HB.out.size _) (Nat.le_trans HB.out.size (by simp)) (by have := HN.out.2.2.1; rw [this, lowR_len]; simp; omega) ?_; intro v1 w1 ho1 hb1 _; (have HO1 := Lib.hid ho1); (have HB1 := Lib.hid hb1); clear ho1 hb1))
        go_roundg g
        case measure => omega
        case rel => exact ⟨k + 1, r / 256, _, by go_num, rfl, Lib.hid ⟨by omega, by have := HN.out; omega, by have := HN.out; rw [this.2.2.2, this.2.2.1]; rfl, by have := HN.out; rw [this.2.2.2, div_pow]⟩, HO1, HB1⟩
      · have hk' : k = 2 := by omega
        subst hk'
        have hx := HN.out.2.2.1
        clear HN hlt
        go_wp2_with (go_at_call 105; refine (HS.out _).mono ?_; rintro e w1 ⟨rfl, rfl⟩)
        refine wp_loop_rounds 2 ?_
        rw [rounds_succ]
        go_wp2_with fail
        obtain ⟨g0, c3, rfl, hg0, hg1, _⟩ := Kd.R_form HO.out (by rw [hx]; simp [lowR])
        have hlen : xs.length = 2 := by rw [hx]; exact lowR_len _ _
        have hcell := Kd.R_cell (0 : Int) HO.out 0 (by omega) (by omega)
        have hfin : xs.set 0 (rdOf 0 xs 0 + 64) = putL v := by
          rw [hx]
          unfold putL
          rw [if_neg (by omega)]; rw [if_pos (by omega)]
          simp [lowR, rdOf]
          try omega
        have hrd : 0 ≤ rdOf 0 xs 0 ∧ rdOf 0 xs 0 + 64 < 256 := by
          rw [hx]; simp [lowR, rdOf]; omega
        obtain ⟨hc0, hf0⟩ := hcell
        have HFIN := Lib.hid hfin
        rw [hlen] at HO ⊢
        clear hx hfin
        generalize rdOf 0 xs 0 = x0 at hc0 HFIN hrd
        simp only [Int.toNat_zero] at hc0 hf0
        rw [rounds_succ]
        go_wp2
        go_ret
        refine ⟨_, rfl, ?_, HB.out.setCell hg0 _⟩
        have hp := Kd.R_put (show (Kd.int .u8).R _ _ _ _ (.slice (some ⟨g0, 0, none⟩) xs.length c3) xs by rw [hlen]; exact HO.out) 0 (x0 + 64)
        rw [hlen] at hp
        rw [← HFIN.out]
        exact hp.1

set_option maxHeartbeats 1600000 in
set_option maxRecDepth 100000 in
theorem rput4 (v : Int) (w : World) (h0 : 16384 ≤ v) (h : v < 1073741824) : Calls Try.prog 62 #[.int .u64 v] w fun e w' => ∃ v0 : Value, e = .returned v0 ∧ (Kd.int .u8).R 5 w' w.heap.size (fun _ => True) v0 (putL v) ∧ Below w.heap.size w w' := by
  have hv : 0 ≤ v := by omega
  have hsz := fun (w : World) => rsize_any v w
  rw [siz4 h0 h] at hsz
  have HS := Lib.hid hsz
  have HV := Lib.hid hv
  clear hsz
  go_enter Try.func62, Try.ntmps62
  go_wp2
  go_loopg [3, 4, 5] 5 (fun g v3 v4 v5 w' => ∃ (k : Nat) (r : Int) (xs : List Int), v5 = .int .i64 k ∧ v4 = .int .u64 r ∧ Hid (k ≤ 4 ∧ 4 < g + k ∧ xs = lowR k v ∧ r = v / 256 ^ k) ∧ Hid ((Kd.int .u8).R 5 w' w.heap.size (fun _ => True) v3 xs) ∧ Hid (Below w.heap.size w w'))
  case atStart => exact ⟨0, v, [], rfl, rfl, Lib.hid ⟨by omega, by omega, rfl, by simp⟩, Lib.hid (Kd.R_nil _ _ _ _ _), Lib.hid (Below.refl _ _)⟩
  case round =>
    obtain ⟨k, r, xs, rfl, rfl, HN, HO, HB⟩ := hrel
    cases gk with
    | zero => have := HN.out; omega
    | succ g =>
      have hk : k ≤ 4 := HN.out.1
      have hr0 : 0 ≤ r := by have := HN.out.2.2.2; have := nonneg_pow HV.out k; omega
      have hr1 : r ≤ v := by rw [HN.out.2.2.2]; exact Int.ediv_le_self _ HV.out
      by_cases hlt : k < 4
      · go_wp2_with (first
          | (go_at_call 105; refine (HS.out _).mono ?_; rintro e w1 ⟨rfl, rfl⟩)
          | (at_builtin; obtain ⟨A3, c3, rfl, hc3, hC3⟩ := Kd.R_reads HO.out; refine appn (w0 := w) .u8 w.heap.size (.tmp 18) (.tmp 19) 23 5 1 rfl rfl Try.underlying23 rinfo_u8 (by decide) (.slice (some ⟨wr.heap.size, 0, none⟩) 1 1) [r % 256] xs _ _ _ rfl rfl (R_of_blk (l := [r % 256]) (heap_alloc_new _ _) HB.out.size (by simp [maxLen])) (Kd.C_alloc hC3 _) (HB.out.alloc HB.out.size _) (Nat.le_trans HB.out.size (by simp)) (by have := HN.out.2.2.1; rw [this, lowR_len]; simp; omega) ?_; intro v1 w1 ho1 hb1 _; (have HO1 := Lib.hid ho1); (have HB1 := Lib.hid hb1); clear ho1 hb1))
        go_roundg g
        case measure => omega
        case rel => exact ⟨k + 1, r / 256, _, by go_num, rfl, Lib.hid ⟨by omega, by have := HN.out; omega, by have := HN.out; rw [this.2.2.2, this.2.2.1]; rfl, by have := HN.out; rw [this.2.2.2, div_pow]⟩, HO1, HB1⟩
      · have hk' : k = 4 := by omega
        subst hk'
        have hx := HN.out.2.2.1
        clear HN hlt
        go_wp2_with (go_at_call 105; refine (HS.out _).mono ?_; rintro e w1 ⟨rfl, rfl⟩)
        refine wp_loop_rounds 3 ?_
        rw [rounds_succ]
        go_wp2_with fail
        rw [rounds_succ]
        go_wp2_with fail
        obtain ⟨g0, c3, rfl, hg0, hg1, _⟩ := Kd.R_form HO.out (by rw [hx]; simp [lowR])
        have hlen : xs.length = 4 := by rw [hx]; exact lowR_len _ _
        have hcell := Kd.R_cell (0 : Int) HO.out 0 (by omega) (by omega)
        have hfin : xs.set 0 (rdOf 0 xs 0 + 128) = putL v := by
          rw [hx]
          unfold putL
          rw [if_neg (by omega)]; rw [if_neg (by omega)]; rw [if_pos (by omega)]
          simp [lowR, rdOf]
          try omega
        have hrd : 0 ≤ rdOf 0 xs 0 ∧ rdOf 0 xs 0 + 128 < 256 := by
          rw [hx]; simp [lowR, rdOf]; omega
        obtain ⟨hc0, hf0⟩ := hcell
        have HFIN := Lib.hid hfin
        rw [hlen] at HO ⊢
        clear hx hfin
        generalize rdOf 0 xs 0 = x0 at hc0 HFIN hrd
        simp only [Int.toNat_zero] at hc0 hf0
        rw [rounds_succ]
        go_wp2
        go_ret
        refine ⟨_, rfl, ?_, HB.out.setCell hg0 _⟩
        have hp := Kd.R_put (show (Kd.int .u8).R _ _ _ _ (.slice (some ⟨g0, 0, none⟩) xs.length c3) xs by rw [hlen]; exact HO.out) 0 (x0 + 128)
        rw [hlen] at hp
        rw [← HFIN.out]
        exact hp.1

set_option maxHeartbeats 1600000 in
set_option maxRecDepth 100000 in
theorem rput8 (v : Int) (w : World) (h0 : 1073741824 ≤ v) (h : v < 4611686018427387904) : Calls Try.prog 62 #[.int .u64 v] w fun e w' => ∃ v0 : Value, e = .returned v0 ∧ (Kd.int .u8).R 5 w' w.heap.size (fun _ => True) v0 (putL v) ∧ Below w.heap.size w w' := by
  have hv : 0 ≤ v := by omega
  have hsz := fun (w : World) => rsize_any v w
  rw [siz8 h0 h] at hsz
  have HS := Lib.hid hsz
  have HV := Lib.hid hv
  clear hsz
  go_enter Try.func62, Try.ntmps62
  go_wp2
  go_loopg [3, 4, 5] 9 (fun g v3 v4 v5 w' => ∃ (k : Nat) (r : Int) (xs : List Int), v5 = .int .i64 k ∧ v4 = .int .u64 r ∧ Hid (k ≤ 8 ∧ 8 < g + k ∧ xs = lowR k v ∧ r = v / 256 ^ k) ∧ Hid ((Kd.int .u8).R 5 w' w.heap.size (fun _ => True) v3 xs) ∧ Hid (Below w.heap.size w w'))
  case atStart => exact ⟨0, v, [], rfl, rfl, Lib.hid ⟨by omega, by omega, rfl, by simp⟩, Lib.hid (Kd.R_nil _ _ _ _ _), Lib.hid (Below.refl _ _)⟩
  case round =>
    obtain ⟨k, r, xs, rfl, rfl, HN, HO, HB⟩ := hrel
    cases gk with
    | zero => have := HN.out; omega
    | succ g =>
      have hk : k ≤ 8 := HN.out.1
      have hr0 : 0 ≤ r := by have := HN.out.2.2.2; have := nonneg_pow HV.out k; omega
      have hr1 : r ≤ v := by rw [HN.out.2.2.2]; exact Int.ediv_le_self _ HV.out
      by_cases hlt : k < 8
      · go_wp2_with (first
          | (go_at_call 105; refine (HS.out _).mono ?_; rintro e w1 ⟨rfl, rfl⟩)
          | (at_builtin; obtain ⟨A3, c3, rfl, hc3, hC3⟩ := Kd.R_reads HO.out; refine appn (w0 := w) .u8 w.heap.size (.tmp 18) (.tmp 19) 23 5 1 rfl rfl Try.underlying23 rinfo_u8 (by decide) (.slice (some ⟨wr.heap.size, 0, none⟩) 1 1) [r % 256] xs _ _ _ rfl rfl (R_of_blk (l := [r % 256]) (heap_alloc_new _ _) HB.out.size (by simp [maxLen])) (Kd.C_alloc hC3 _) (HB.out.alloc HB.out.size _) (Nat.le_trans HB.out.size (by simp)) (by have := HN.out.2.2.1; rw [this, lowR_len]; simp; omega) ?_; intro v1 w1 ho1 hb1 _; (have HO1 := Lib.hid ho1); (have HB1 := Lib.hid hb1); clear ho1 hb1))
        go_roundg g
        case measure => omega
        case rel => exact ⟨k + 1, r / 256, _, by go_num, rfl, Lib.hid ⟨by omega, by have := HN.out; omega, by have := HN.out; rw [this.2.2.2, this.2.2.1]; rfl, by have := HN.out; rw [this.2.2.2, div_pow]⟩, HO1, HB1⟩
      · have hk' : k = 8 := by omega
        subst hk'
        have hx := HN.out.2.2.1
        clear HN hlt
        go_wp2_with (go_at_call 105; refine (HS.out _).mono ?_; rintro e w1 ⟨rfl, rfl⟩)
        refine wp_loop_rounds 4 ?_
        rw [rounds_succ]
        go_wp2_with fail
        rw [rounds_succ]
        go_wp2_with fail
        rw [rounds_succ]
        go_wp2_with fail
        obtain ⟨g0, c3, rfl, hg0, hg1, _⟩ := Kd.R_form HO.out (by rw [hx]; simp [lowR])
        have hlen : xs.length = 8 := by rw [hx]; exact lowR_len _ _
        have hcell := Kd.R_cell (0 : Int) HO.out 0 (by omega) (by omega)
        have hfin : xs.set 0 (rdOf 0 xs 0 + 192) = putL v := by
          rw [hx]
          unfold putL
          rw [if_neg (by omega)]; rw [if_neg (by omega)]; rw [if_neg (by omega)]; rw [if_pos (by omega)]
          simp [lowR, rdOf]
          try omega
        have hrd : 0 ≤ rdOf 0 xs 0 ∧ rdOf 0 xs 0 + 192 < 256 := by
          rw [hx]; simp [lowR, rdOf]; omega
        obtain ⟨hc0, hf0⟩ := hcell
        have HFIN := Lib.hid hfin
        rw [hlen] at HO ⊢
        clear hx hfin
        generalize rdOf 0 xs 0 = x0 at hc0 HFIN hrd
        simp only [Int.toNat_zero] at hc0 hf0
        rw [rounds_succ]
        go_wp2
        go_ret
        refine ⟨_, rfl, ?_, HB.out.setCell hg0 _⟩
        have hp := Kd.R_put (show (Kd.int .u8).R _ _ _ _ (.slice (some ⟨g0, 0, none⟩) xs.length c3) xs by rw [hlen]; exact HO.out) 0 (x0 + 192)
        rw [hlen] at hp
        rw [← HFIN.out]
        exact hp.1
end Go.Proofs.Ythgdbdhonhkkpaa.V
