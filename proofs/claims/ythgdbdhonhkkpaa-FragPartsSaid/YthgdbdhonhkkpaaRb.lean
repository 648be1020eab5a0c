/-
  vint, the reference: Put whatever the number; Get.
-/
import Derived.Test.YthgdbdhonhkkpaaRa
namespace Go.Proofs.Ythgdbdhonhkkpaa.V
open Go.RowKit Go.Proofs.Ythgdbdhonhkkpaa.L Go.Proofs.YthgdbdhonhkkpaaW.PrintWords

theorem rput_any (v : Int) (w : World) (h0 : 0 ≤ v) : Calls Try.prog 62 #[.int .u64 v] w fun e w' => ∃ v0 : Value, e = .returned v0 ∧ (Kd.int .u8).R 5 w' w.heap.size (fun _ => True) v0 (putL v) ∧ Below w.heap.size w w' := by
  by_cases h1 : v < 64
  · exact rput1 v w h0 h1
  by_cases h2 : v < 16384
  · exact rput2 v w (by omega) h2
  by_cases h3 : v < 1073741824
  · exact rput4 v w (by omega) h3
  by_cases h4 : v < 4611686018427387904
  · exact rput8 v w (by omega) h4
  · exact rput0 v w (by omega)
theorem siz_le {v : Int} (n : Nat) (h : n = 1 ∧ v < 64 ∨ n = 2 ∧ v < 16384 ∨ n = 4 ∧ v < 1073741824 ∨ n = 8) : siz v ≤ n := by
  unfold siz; (repeat' split) <;> omega

set_option maxHeartbeats 1600000 in
set_option maxRecDepth 100000 in
theorem rget1 (l : List Int) (m b off c : Nat) (x  : Int) (w : World) (hl : l.length ≤ 9223372036854775807) (hm : m + 1 ≤ l.length)
    (hx : w.cell? ⟨b, off + m, none⟩ = some (.int .u8 x))  (hx0 : 0 ≤ x) (hx1 : x < 64) :
    Calls Try.prog 61 #[.slice (some ⟨b, off, none⟩) l.length c, .int .i64 m] w fun e w' => e = (if siz (x) = 1 then .returned (.tuple #[.int .u64 (x), .int .i64 ((m : Int) + 1), .int .i64 0]) else .returned (.tuple #[.int .u64 0, .int .i64 0, .int .i64 3])) ∧ Below w.heap.size w w' := by
  have hd : x / 64 = 0 := by omega
  have hsz := fun w => rsize_any (x) w
  have hle : siz (x) ≤ 1 := siz_le 1 (by omega)
  have hm64 : x % 64 = x := by omega
  have h00 : ((m : Int) == (l.length : Int)) = false := by simp; omega
  have h01 : decide (((l.length : Int) - (m : Int)) < 1) = false := by simp; omega
  by_cases hs : siz (x) = 1
  · rw [if_pos hs]
    rw [hs] at hsz
    have HS := Lib.hid hsz
    clear hsz hs hle
    go_enter Try.func61, Try.ntmps61
    go_wp2_with fail
    refine wp_loop_rounds 1 ?_
    rw [rounds_succ]
    go_wp2_with fail
    refine wp_loop_rounds 1 ?_
    rw [rounds_succ]
    go_wp2_with (go_at_call 105; refine (HS.out _).mono ?_; rintro e w1 ⟨rfl, rfl⟩)
    go_ret3
    exact ⟨rfl, Below.refl _ _⟩
  · rw [if_neg hs]
    have hlt : decide (siz (x) < 1) = true := by simp; omega
    have HS := Lib.hid hsz
    clear hsz hs hle
    go_enter Try.func61, Try.ntmps61
    go_wp2_with fail
    refine wp_loop_rounds 1 ?_
    rw [rounds_succ]
    go_wp2_with fail
    refine wp_loop_rounds 1 ?_
    rw [rounds_succ]
    go_wp2_with (go_at_call 105; refine (HS.out _).mono ?_; rintro e w1 ⟨rfl, rfl⟩)
    go_ret3
    exact ⟨rfl, Below.refl _ _⟩

set_option maxHeartbeats 1600000 in
set_option maxRecDepth 100000 in
theorem rget2 (l : List Int) (m b off c : Nat) (x ya : Int) (w : World) (hl : l.length ≤ 9223372036854775807) (hm : m + 2 ≤ l.length)
    (hx : w.cell? ⟨b, off + m, none⟩ = some (.int .u8 x)) (ha : w.cell? ⟨b, off + (m + 1), none⟩ = some (.int .u8 ya)) (ha0 : 0 ≤ ya) (ha1 : ya < 256) (hx0 : 64 ≤ x) (hx1 : x < 128) :
    Calls Try.prog 61 #[.slice (some ⟨b, off, none⟩) l.length c, .int .i64 m] w fun e w' => e = (if siz ((x - 64) * 256 + ya) = 2 then .returned (.tuple #[.int .u64 ((x - 64) * 256 + ya), .int .i64 ((m : Int) + 2), .int .i64 0]) else .returned (.tuple #[.int .u64 0, .int .i64 0, .int .i64 3])) ∧ Below w.heap.size w w' := by
  have hd : x / 64 = 1 := by omega
  have hsz := fun w => rsize_any ((x - 64) * 256 + ya) w
  have hle : siz ((x - 64) * 256 + ya) ≤ 2 := siz_le 2 (by omega)
  have e1 : 256 * (x % 64) + ya = (x - 64) * 256 + ya := by omega
  have h00 : ((m : Int) == (l.length : Int)) = false := by simp; omega
  have h01 : decide (((l.length : Int) - (m : Int)) < 2) = false := by simp; omega
  by_cases hs : siz ((x - 64) * 256 + ya) = 2
  · rw [if_pos hs]
    rw [hs] at hsz
    have HS := Lib.hid hsz
    clear hsz hs hle
    go_enter Try.func61, Try.ntmps61
    go_wp2_with fail
    refine wp_loop_rounds 2 ?_
    rw [rounds_succ]
    go_wp2_with fail
    rw [rounds_succ]
    go_wp2_with fail
    refine wp_loop_rounds 2 ?_
    rw [rounds_succ]
    go_wp2_with fail
    rw [rounds_succ]
    go_wp2_with (go_at_call 105; refine (HS.out _).mono ?_; rintro e w1 ⟨rfl, rfl⟩)
    go_ret3
    exact ⟨rfl, Below.refl _ _⟩
  · rw [if_neg hs]
    have hlt : decide (siz ((x - 64) * 256 + ya) < 2) = true := by simp; omega
    have HS := Lib.hid hsz
    clear hsz hs hle
    go_enter Try.func61, Try.ntmps61
    go_wp2_with fail
    refine wp_loop_rounds 2 ?_
    rw [rounds_succ]
    go_wp2_with fail
    rw [rounds_succ]
    go_wp2_with fail
    refine wp_loop_rounds 2 ?_
    rw [rounds_succ]
    go_wp2_with fail
    rw [rounds_succ]
    go_wp2_with (go_at_call 105; refine (HS.out _).mono ?_; rintro e w1 ⟨rfl, rfl⟩)
    go_ret3
    exact ⟨rfl, Below.refl _ _⟩

set_option maxHeartbeats 1600000 in
set_option maxRecDepth 100000 in
theorem rget4 (l : List Int) (m b off c : Nat) (x ya yb yd : Int) (w : World) (hl : l.length ≤ 9223372036854775807) (hm : m + 4 ≤ l.length)
    (hx : w.cell? ⟨b, off + m, none⟩ = some (.int .u8 x)) (ha : w.cell? ⟨b, off + (m + 1), none⟩ = some (.int .u8 ya)) (ha0 : 0 ≤ ya) (ha1 : ya < 256) (hb : w.cell? ⟨b, off + (m + 2), none⟩ = some (.int .u8 yb)) (hb0 : 0 ≤ yb) (hb1 : yb < 256) (hd : w.cell? ⟨b, off + (m + 3), none⟩ = some (.int .u8 yd)) (hd0 : 0 ≤ yd) (hd1 : yd < 256) (hx0 : 128 ≤ x) (hx1 : x < 192) :
    Calls Try.prog 61 #[.slice (some ⟨b, off, none⟩) l.length c, .int .i64 m] w fun e w' => e = (if siz ((((x - 128) * 256 + ya) * 256 + yb) * 256 + yd) = 4 then .returned (.tuple #[.int .u64 ((((x - 128) * 256 + ya) * 256 + yb) * 256 + yd), .int .i64 ((m : Int) + 4), .int .i64 0]) else .returned (.tuple #[.int .u64 0, .int .i64 0, .int .i64 3])) ∧ Below w.heap.size w w' := by
  have hd : x / 64 = 2 := by omega
  have hsz := fun w => rsize_any ((((x - 128) * 256 + ya) * 256 + yb) * 256 + yd) w
  have hle : siz ((((x - 128) * 256 + ya) * 256 + yb) * 256 + yd) ≤ 4 := siz_le 4 (by omega)
  have e1 : 256 * (x % 64) + ya = (x - 128) * 256 + ya := by omega
  have e2 : 256 * ((x - 128) * 256 + ya) + yb = ((x - 128) * 256 + ya) * 256 + yb := by omega
  have e3 : 256 * (((x - 128) * 256 + ya) * 256 + yb) + yd = (((x - 128) * 256 + ya) * 256 + yb) * 256 + yd := by omega
  have h00 : ((m : Int) == (l.length : Int)) = false := by simp; omega
  have h01 : decide (((l.length : Int) - (m : Int)) < 4) = false := by simp; omega
  by_cases hs : siz ((((x - 128) * 256 + ya) * 256 + yb) * 256 + yd) = 4
  · rw [if_pos hs]
    rw [hs] at hsz
    have HS := Lib.hid hsz
    clear hsz hs hle
    go_enter Try.func61, Try.ntmps61
    go_wp2_with fail
    refine wp_loop_rounds 3 ?_
    rw [rounds_succ]
    go_wp2_with fail
    rw [rounds_succ]
    go_wp2_with fail
    rw [rounds_succ]
    go_wp2_with fail
    refine wp_loop_rounds 4 ?_
    rw [rounds_succ]
    go_wp2_with fail
    rw [rounds_succ]
    go_wp2_with fail
    rw [rounds_succ]
    go_wp2_with fail
    rw [rounds_succ]
    go_wp2_with (go_at_call 105; refine (HS.out _).mono ?_; rintro e w1 ⟨rfl, rfl⟩)
    go_ret3
    exact ⟨rfl, Below.refl _ _⟩
  · rw [if_neg hs]
    have hlt : decide (siz ((((x - 128) * 256 + ya) * 256 + yb) * 256 + yd) < 4) = true := by simp; omega
    have HS := Lib.hid hsz
    clear hsz hs hle
    go_enter Try.func61, Try.ntmps61
    go_wp2_with fail
    refine wp_loop_rounds 3 ?_
    rw [rounds_succ]
    go_wp2_with fail
    rw [rounds_succ]
    go_wp2_with fail
    rw [rounds_succ]
    go_wp2_with fail
    refine wp_loop_rounds 4 ?_
    rw [rounds_succ]
    go_wp2_with fail
    rw [rounds_succ]
    go_wp2_with fail
    rw [rounds_succ]
    go_wp2_with fail
    rw [rounds_succ]
    go_wp2_with (go_at_call 105; refine (HS.out _).mono ?_; rintro e w1 ⟨rfl, rfl⟩)
    go_ret3
    exact ⟨rfl, Below.refl _ _⟩

set_option maxHeartbeats 1600000 in
set_option maxRecDepth 100000 in
theorem rget8 (l : List Int) (m b off c : Nat) (x ya yb yd ye yf yg yh : Int) (w : World) (hl : l.length ≤ 9223372036854775807) (hm : m + 8 ≤ l.length)
    (hx : w.cell? ⟨b, off + m, none⟩ = some (.int .u8 x)) (ha : w.cell? ⟨b, off + (m + 1), none⟩ = some (.int .u8 ya)) (ha0 : 0 ≤ ya) (ha1 : ya < 256) (hb : w.cell? ⟨b, off + (m + 2), none⟩ = some (.int .u8 yb)) (hb0 : 0 ≤ yb) (hb1 : yb < 256) (hd : w.cell? ⟨b, off + (m + 3), none⟩ = some (.int .u8 yd)) (hd0 : 0 ≤ yd) (hd1 : yd < 256) (he : w.cell? ⟨b, off + (m + 4), none⟩ = some (.int .u8 ye)) (he0 : 0 ≤ ye) (he1 : ye < 256) (hf : w.cell? ⟨b, off + (m + 5), none⟩ = some (.int .u8 yf)) (hf0 : 0 ≤ yf) (hf1 : yf < 256) (hg : w.cell? ⟨b, off + (m + 6), none⟩ = some (.int .u8 yg)) (hg0 : 0 ≤ yg) (hg1 : yg < 256) (hh : w.cell? ⟨b, off + (m + 7), none⟩ = some (.int .u8 yh)) (hh0 : 0 ≤ yh) (hh1 : yh < 256) (hx0 : 192 ≤ x) (hx1 : x < 256) :
    Calls Try.prog 61 #[.slice (some ⟨b, off, none⟩) l.length c, .int .i64 m] w fun e w' => e = (if siz ((((((((x - 192) * 256 + ya) * 256 + yb) * 256 + yd) * 256 + ye) * 256 + yf) * 256 + yg) * 256 + yh) = 8 then .returned (.tuple #[.int .u64 ((((((((x - 192) * 256 + ya) * 256 + yb) * 256 + yd) * 256 + ye) * 256 + yf) * 256 + yg) * 256 + yh), .int .i64 ((m : Int) + 8), .int .i64 0]) else .returned (.tuple #[.int .u64 0, .int .i64 0, .int .i64 3])) ∧ Below w.heap.size w w' := by
  have hd : x / 64 = 3 := by omega
  have hsz := fun w => rsize_any ((((((((x - 192) * 256 + ya) * 256 + yb) * 256 + yd) * 256 + ye) * 256 + yf) * 256 + yg) * 256 + yh) w
  have hle : siz ((((((((x - 192) * 256 + ya) * 256 + yb) * 256 + yd) * 256 + ye) * 256 + yf) * 256 + yg) * 256 + yh) ≤ 8 := siz_le 8 (by omega)
  have e1 : 256 * (x % 64) + ya = (x - 192) * 256 + ya := by omega
  have e2 : 256 * ((x - 192) * 256 + ya) + yb = ((x - 192) * 256 + ya) * 256 + yb := by omega
  have e3 : 256 * (((x - 192) * 256 + ya) * 256 + yb) + yd = (((x - 192) * 256 + ya) * 256 + yb) * 256 + yd := by omega
  have e4 : 256 * ((((x - 192) * 256 + ya) * 256 + yb) * 256 + yd) + ye = ((((x - 192) * 256 + ya) * 256 + yb) * 256 + yd) * 256 + ye := by omega
  have e5 : 256 * (((((x - 192) * 256 + ya) * 256 + yb) * 256 + yd) * 256 + ye) + yf = (((((x - 192) * 256 + ya) * 256 + yb) * 256 + yd) * 256 + ye) * 256 + yf := by omega
  have e6 : 256 * ((((((x - 192) * 256 + ya) * 256 + yb) * 256 + yd) * 256 + ye) * 256 + yf) + yg = ((((((x - 192) * 256 + ya) * 256 + yb) * 256 + yd) * 256 + ye) * 256 + yf) * 256 + yg := by omega
  have e7 : 256 * (((((((x - 192) * 256 + ya) * 256 + yb) * 256 + yd) * 256 + ye) * 256 + yf) * 256 + yg) + yh = (((((((x - 192) * 256 + ya) * 256 + yb) * 256 + yd) * 256 + ye) * 256 + yf) * 256 + yg) * 256 + yh := by omega
  have h00 : ((m : Int) == (l.length : Int)) = false := by simp; omega
  have h01 : decide (((l.length : Int) - (m : Int)) < 8) = false := by simp; omega
  by_cases hs : siz ((((((((x - 192) * 256 + ya) * 256 + yb) * 256 + yd) * 256 + ye) * 256 + yf) * 256 + yg) * 256 + yh) = 8
  · rw [if_pos hs]
    rw [hs] at hsz
    have HS := Lib.hid hsz
    clear hsz hs hle
    go_enter Try.func61, Try.ntmps61
    go_wp2_with fail
    refine wp_loop_rounds 4 ?_
    rw [rounds_succ]
    go_wp2_with fail
    rw [rounds_succ]
    go_wp2_with fail
    rw [rounds_succ]
    go_wp2_with fail
    rw [rounds_succ]
    go_wp2_with fail
    refine wp_loop_rounds 8 ?_
    rw [rounds_succ]
    go_wp2_with fail
    rw [rounds_succ]
    go_wp2_with fail
    rw [rounds_succ]
    go_wp2_with fail
    rw [rounds_succ]
    go_wp2_with fail
    rw [rounds_succ]
    go_wp2_with fail
    rw [rounds_succ]
    go_wp2_with fail
    rw [rounds_succ]
    go_wp2_with fail
    rw [rounds_succ]
    go_wp2_with (go_at_call 105; refine (HS.out _).mono ?_; rintro e w1 ⟨rfl, rfl⟩)
    go_ret3
    exact ⟨rfl, Below.refl _ _⟩
  · rw [if_neg hs]
    have hlt : decide (siz ((((((((x - 192) * 256 + ya) * 256 + yb) * 256 + yd) * 256 + ye) * 256 + yf) * 256 + yg) * 256 + yh) < 8) = true := by simp; omega
    have HS := Lib.hid hsz
    clear hsz hs hle
    go_enter Try.func61, Try.ntmps61
    go_wp2_with fail
    refine wp_loop_rounds 4 ?_
    rw [rounds_succ]
    go_wp2_with fail
    rw [rounds_succ]
    go_wp2_with fail
    rw [rounds_succ]
    go_wp2_with fail
    rw [rounds_succ]
    go_wp2_with fail
    refine wp_loop_rounds 8 ?_
    rw [rounds_succ]
    go_wp2_with fail
    rw [rounds_succ]
    go_wp2_with fail
    rw [rounds_succ]
    go_wp2_with fail
    rw [rounds_succ]
    go_wp2_with fail
    rw [rounds_succ]
    go_wp2_with fail
    rw [rounds_succ]
    go_wp2_with fail
    rw [rounds_succ]
    go_wp2_with fail
    rw [rounds_succ]
    go_wp2_with (go_at_call 105; refine (HS.out _).mono ?_; rintro e w1 ⟨rfl, rfl⟩)
    go_ret3
    exact ⟨rfl, Below.refl _ _⟩

set_option maxHeartbeats 800000 in
set_option maxRecDepth 100000 in
theorem rget_arg (A : Option Addr) (n c : Nat) (i : Int) (w : World) (h : i < 0 ∨ (n : Int) < i) :
    Calls Try.prog 61 #[.slice A n c, .int .i64 i] w fun e w' => e = .returned (.tuple #[.int .u64 0, .int .i64 0, .int .i64 1]) ∧ Below w.heap.size w w' := by
  rcases h with h | h
  · have h1 : decide (i < 0) = true := by simpa using h
    go_enter Try.func61, Try.ntmps61
    go_wp2
    go_ret3
    exact ⟨rfl, Below.refl _ _⟩
  · have h1 : decide (i < 0) = false := by simp; omega
    go_enter Try.func61, Try.ntmps61
    go_wp2
    go_ret3
    exact ⟨rfl, Below.refl _ _⟩
set_option maxHeartbeats 800000 in
set_option maxRecDepth 100000 in
theorem rget_end (A : Option Addr) (n c : Nat) (w : World) :
    Calls Try.prog 61 #[.slice A n c, .int .i64 n] w fun e w' => e = .returned (.tuple #[.int .u64 0, .int .i64 0, .int .i64 10]) ∧ Below w.heap.size w w' := by
  go_enter Try.func61, Try.ntmps61
  go_wp2
  go_ret3
  exact ⟨rfl, Below.refl _ _⟩
set_option maxHeartbeats 800000 in
set_option maxRecDepth 100000 in
theorem rget_short (l : List Int) (m b off c : Nat) (x : Int) (w : World) (hl : l.length ≤ 9223372036854775807) (hm : m < l.length)
    (hx : w.cell? ⟨b, off + m, none⟩ = some (.int .u8 x)) (h : 64 ≤ x ∧ x < 128 ∧ l.length < m + 2 ∨ 128 ≤ x ∧ x < 192 ∧ l.length < m + 4 ∨ 192 ≤ x ∧ x < 256 ∧ l.length < m + 8) :
    Calls Try.prog 61 #[.slice (some ⟨b, off, none⟩) l.length c, .int .i64 m] w fun e w' => e = .returned (.tuple #[.int .u64 0, .int .i64 0, .int .i64 10]) ∧ Below w.heap.size w w' := by
  have h0 : ((m : Int) == (l.length : Int)) = false := by simp; omega
  rcases h with ⟨h1, h2, h3⟩ | ⟨h1, h2, h3⟩ | ⟨h1, h2, h3⟩
  · have hd : x / 64 = 1 := by omega
    have hs : decide ((l.length : Int) - (m : Int) < 2) = true := by simp; omega
    go_enter Try.func61, Try.ntmps61
    go_wp2_with fail
    refine wp_loop_rounds 2 ?_
    rw [rounds_succ]
    go_wp2_with fail
    rw [rounds_succ]
    go_wp2_with fail
    go_ret3
    exact ⟨rfl, Below.refl _ _⟩
  · have hd : x / 64 = 2 := by omega
    have hs : decide ((l.length : Int) - (m : Int) < 4) = true := by simp; omega
    go_enter Try.func61, Try.ntmps61
    go_wp2_with fail
    refine wp_loop_rounds 3 ?_
    rw [rounds_succ]
    go_wp2_with fail
    rw [rounds_succ]
    go_wp2_with fail
    rw [rounds_succ]
    go_wp2_with fail
    go_ret3
    exact ⟨rfl, Below.refl _ _⟩
  · have hd : x / 64 = 3 := by omega
    have hs : decide ((l.length : Int) - (m : Int) < 8) = true := by simp; omega
    go_enter Try.func61, Try.ntmps61
    go_wp2_with fail
    refine wp_loop_rounds 4 ?_
    rw [rounds_succ]
    go_wp2_with fail
    rw [rounds_succ]
    go_wp2_with fail
    rw [rounds_succ]
    go_wp2_with fail
    rw [rounds_succ]
    go_wp2_with fail
    go_ret3
    exact ⟨rfl, Below.refl _ _⟩
theorem rget_any (l : List Int) (A : Option Addr) (c : Nat) (i : Int) (w : World) (hC : (Kd.int .u8).C w A l.length l) (hc : l.length ≤ c) (hb : okB l) :
    Calls Try.prog 61 #[.slice A l.length c, .int .i64 i] w fun e w' => e = getV (getR l i) ∧ Below w.heap.size w w' := by
  obtain ⟨hl, ho⟩ := C_open hC
  by_cases h0 : i < 0
  · rw [show getR l i = (0, 0, 1) from by unfold getR; rw [if_pos h0]]; exact rget_arg A l.length c i w (.inl h0)
  by_cases h1 : (l.length : Int) < i
  · rw [show getR l i = (0, 0, 1) from by unfold getR; rw [if_neg h0, if_pos h1]]; exact rget_arg A l.length c i w (.inr h1)
  obtain ⟨m, rfl⟩ := Int.eq_ofNat_of_zero_le (show 0 ≤ i by omega)
  have hR : getR l (m : Int) = if (dec (l.drop m)).2.2 = 0 then ((dec (l.drop m)).1, (m : Int) + (dec (l.drop m)).2.1, 0) else (0, 0, (dec (l.drop m)).2.2) := by
    unfold getR; rw [if_neg h0, if_neg h1]; rfl
  by_cases h2 : m = l.length
  · subst h2
    have : getR l (l.length : Int) = (0, 0, 10) := by rw [hR, List.drop_length]; rfl
    rw [this]; exact rget_end A l.length c w
  have hm : m < l.length := by omega
  rcases ho with rfl | ⟨b, off, rfl, _, hcell⟩
  · simp at hm
  have hcx := hcell m hm
  have hx := hb.at_ m
  have hD := drop_getD l m
  have hL := drop_len l m
  generalize l.drop m = r at hR hD hL
  match r, hD, hL with
  | [], _, hL => simp at hL; omega
  | x :: r, hD, hL =>
    have ex : l.getD m 0 = x := (hD 0).symm
    rw [ex] at hcx hx
    simp only [List.length_cons] at hL
    by_cases c0 : x < 64
    · refine (rget1 l m b off c x w hl (by omega) hcx hx.1 c0).mono ?_
      rintro e w' ⟨rfl, hB⟩
      refine ⟨?_, hB⟩
      rw [if_pos (siz1 c0), hR]
      simp only [dec, if_pos c0]; rfl
    by_cases c1 : x < 128
    · match r, hD, hL with
      | [], _, hL =>
        have : getR l (m : Int) = (0, 0, 10) := by rw [hR]; simp only [dec, if_neg c0, if_pos c1]; rfl
        rw [this]; exact rget_short l m b off c x w hl hm hcx (.inl ⟨by omega, c1, by simp at hL; omega⟩)
      | a :: r, hD, hL =>
        simp only [List.length_cons] at hL
        have ka := hcell (m + 1) (by omega); rw [show l.getD (m + 1) 0 = a from (hD 1).symm] at ka
        have ba := hb.at_ (m + 1); rw [show l.getD (m + 1) 0 = a from (hD 1).symm] at ba
        refine (rget2 l m b off c x a w hl (by omega) hcx (by exact ka) ba.1 ba.2 (by omega) c1).mono ?_
        rintro e w' ⟨rfl, hB⟩
        refine ⟨?_, hB⟩
        rw [hR]
        simp only [dec, if_neg c0, if_pos c1]
        split <;> rfl
    by_cases c2 : x < 192
    · match r, hD, hL with
      | [], _, hL | [_], _, hL | [_, _], _, hL =>
        have : getR l (m : Int) = (0, 0, 10) := by rw [hR]; simp only [dec, if_neg c0, if_neg c1, if_pos c2]; rfl
        rw [this]; exact rget_short l m b off c x w hl hm hcx (.inr (.inl ⟨by omega, c2, by simp at hL; omega⟩))
      | a :: b' :: d :: r, hD, hL =>
        simp only [List.length_cons] at hL
        have ka := hcell (m + 1) (by omega); rw [show l.getD (m + 1) 0 = a from (hD 1).symm] at ka
        have ba := hb.at_ (m + 1); rw [show l.getD (m + 1) 0 = a from (hD 1).symm] at ba
        have kb := hcell (m + 2) (by omega); rw [show l.getD (m + 2) 0 = b' from (hD 2).symm] at kb
        have bb := hb.at_ (m + 2); rw [show l.getD (m + 2) 0 = b' from (hD 2).symm] at bb
        have kd := hcell (m + 3) (by omega); rw [show l.getD (m + 3) 0 = d from (hD 3).symm] at kd
        have bd := hb.at_ (m + 3); rw [show l.getD (m + 3) 0 = d from (hD 3).symm] at bd
        refine (rget4 l m b off c x a b' d w hl (by omega) hcx (by exact ka) ba.1 ba.2 (by exact kb) bb.1 bb.2 (by exact kd) bd.1 bd.2 (by omega) c2).mono ?_
        rintro e w' ⟨rfl, hB⟩
        refine ⟨?_, hB⟩
        rw [hR]
        simp only [dec, if_neg c0, if_neg c1, if_pos c2]
        split <;> rfl
    · match r, hD, hL with
      | [], _, hL | [_], _, hL | [_, _], _, hL | [_, _, _], _, hL | [_, _, _, _], _, hL | [_, _, _, _, _], _, hL | [_, _, _, _, _, _], _, hL =>
        have : getR l (m : Int) = (0, 0, 10) := by rw [hR]; simp only [dec, if_neg c0, if_neg c1, if_neg c2]; rfl
        rw [this]; exact rget_short l m b off c x w hl hm hcx (.inr (.inr ⟨by omega, by omega, by simp at hL; omega⟩))
      | a :: b' :: d :: e :: f :: g :: h :: r, hD, hL =>
        simp only [List.length_cons] at hL
        have ka := hcell (m + 1) (by omega); rw [show l.getD (m + 1) 0 = a from (hD 1).symm] at ka
        have ba := hb.at_ (m + 1); rw [show l.getD (m + 1) 0 = a from (hD 1).symm] at ba
        have kb := hcell (m + 2) (by omega); rw [show l.getD (m + 2) 0 = b' from (hD 2).symm] at kb
        have bb := hb.at_ (m + 2); rw [show l.getD (m + 2) 0 = b' from (hD 2).symm] at bb
        have kd := hcell (m + 3) (by omega); rw [show l.getD (m + 3) 0 = d from (hD 3).symm] at kd
        have bd := hb.at_ (m + 3); rw [show l.getD (m + 3) 0 = d from (hD 3).symm] at bd
        have ke := hcell (m + 4) (by omega); rw [show l.getD (m + 4) 0 = e from (hD 4).symm] at ke
        have be := hb.at_ (m + 4); rw [show l.getD (m + 4) 0 = e from (hD 4).symm] at be
        have kf := hcell (m + 5) (by omega); rw [show l.getD (m + 5) 0 = f from (hD 5).symm] at kf
        have bf := hb.at_ (m + 5); rw [show l.getD (m + 5) 0 = f from (hD 5).symm] at bf
        have kg := hcell (m + 6) (by omega); rw [show l.getD (m + 6) 0 = g from (hD 6).symm] at kg
        have bg := hb.at_ (m + 6); rw [show l.getD (m + 6) 0 = g from (hD 6).symm] at bg
        have kh := hcell (m + 7) (by omega); rw [show l.getD (m + 7) 0 = h from (hD 7).symm] at kh
        have bh := hb.at_ (m + 7); rw [show l.getD (m + 7) 0 = h from (hD 7).symm] at bh
        refine (rget8 l m b off c x a b' d e f g h w hl (by omega) hcx (by exact ka) ba.1 ba.2 (by exact kb) bb.1 bb.2 (by exact kd) bd.1 bd.2 (by exact ke) be.1 be.2 (by exact kf) bf.1 bf.2 (by exact kg) bg.1 bg.2 (by exact kh) bh.1 bh.2 (by omega) hx.2).mono ?_
        rintro e' w' ⟨rfl, hB⟩
        refine ⟨?_, hB⟩
        rw [hR]
        simp only [dec, if_neg c0, if_neg c1, if_neg c2]
        split <;> rfl
end Go.Proofs.Ythgdbdhonhkkpaa.V
