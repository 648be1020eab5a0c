/-
  vint: Get tells the number that stands somewhere in bytes, and the place behind it.
-/
import Derived.Test.YthgdbdhonhkkpaaVb
namespace Go.Proofs.Ythgdbdhonhkkpaa.V
open Go.RowKit Go.Proofs.Ythgdbdhonhkkpaa.L Go.Proofs.YthgdbdhonhkkpaaW.PrintWords
attribute [local go_sem ↓] Go.wp_at_zero Go.wp_at_succ

/-- the number at the begin of bytes, how many bytes it has, the error -/
def dec : List Int → Int × Int × Int
  | [] => (0, 0, 10)
  | x :: r =>
    if x < 64 then (x, 1, 0) else
    if x < 128 then (match r with
      | y :: _ => if siz ((x - 64) * 256 + y) = 2 then ((x - 64) * 256 + y, 2, 0) else (0, 0, 3)
      | _ => (0, 0, 10)) else
    if x < 192 then (match r with
      | a :: b :: c :: _ => if siz ((((x - 128) * 256 + a) * 256 + b) * 256 + c) = 4 then ((((x - 128) * 256 + a) * 256 + b) * 256 + c, 4, 0) else (0, 0, 3)
      | _ => (0, 0, 10))
    else (match r with
      | a :: b :: c :: d :: e :: f :: g :: _ => if siz ((((((((x - 192) * 256 + a) * 256 + b) * 256 + c) * 256 + d) * 256 + e) * 256 + f) * 256 + g) = 8 then ((((((((x - 192) * 256 + a) * 256 + b) * 256 + c) * 256 + d) * 256 + e) * 256 + f) * 256 + g, 8, 0) else (0, 0, 3)
      | _ => (0, 0, 10))

set_option maxHeartbeats 1600000 in
set_option maxRecDepth 100000 in
theorem get1 (l : List Int) (m b off c : Nat) (x  : Int) (w : World) (hl : l.length ≤ 9223372036854775807) (hc : l.length ≤ c) (hm : m + 1 ≤ l.length)
    (hx : w.cell? ⟨b, off + m, none⟩ = some (.int .u8 x))  (hx0 : 0 ≤ x) (hx1 : x < 64) :
    Calls Try.prog 60 #[.slice (some ⟨b, off, none⟩) l.length c, .int .i64 m] w fun e w' => e = (if siz (x) = 1 then .returned (.tuple #[.int .u64 (x), .int .i64 ((m : Int) + 1), .int .i64 0]) else .returned (.tuple #[.int .u64 0, .int .i64 0, .int .i64 3])) ∧ Below w.heap.size w w' := by
  have hd : x / 64 = 0 := by omega
  have hm64 : x % 64 = x := by omega
  have hsz := size_any (x)
  by_cases hs : siz (x) = 1
  · rw [if_pos hs]
    rw [hs] at hsz
    have HS := Lib.hid hsz
    clear hsz hs
    go_enter Try.func60, Try.ntmps60
    go_wp2_with fail
    all_goals refine wp_loop_rounds 1 ?_
    all_goals (rw [rounds_succ]; go_wp2_with fail)
    all_goals
      go_wp2_with (go_at_call 103; refine (HS.out _).mono ?_; rintro e w1 ⟨rfl, hb⟩)
      go_ret3
      exact ⟨rfl, hb⟩
  · rw [if_neg hs]
    have HS := Lib.hid hsz
    have hne : (siz (x) != 1) = true := by simpa using hs
    clear hsz hs
    go_enter Try.func60, Try.ntmps60
    go_wp2_with fail
    all_goals refine wp_loop_rounds 1 ?_
    all_goals (rw [rounds_succ]; go_wp2_with fail)
    all_goals
      go_wp2_with (go_at_call 103; refine (HS.out _).mono ?_; rintro e w1 ⟨rfl, hb⟩)
      go_ret3
      exact ⟨rfl, hb⟩

set_option maxHeartbeats 1600000 in
set_option maxRecDepth 100000 in
theorem get2 (l : List Int) (m b off c : Nat) (x ya : Int) (w : World) (hl : l.length ≤ 9223372036854775807) (hc : l.length ≤ c) (hm : m + 2 ≤ l.length)
    (hx : w.cell? ⟨b, off + m, none⟩ = some (.int .u8 x)) (ha : w.cell? ⟨b, off + (m + 1), none⟩ = some (.int .u8 ya)) (ha0 : 0 ≤ ya) (ha1 : ya < 256) (hx0 : 64 ≤ x) (hx1 : x < 128) :
    Calls Try.prog 60 #[.slice (some ⟨b, off, none⟩) l.length c, .int .i64 m] w fun e w' => e = (if siz ((x - 64) * 256 + ya) = 2 then .returned (.tuple #[.int .u64 ((x - 64) * 256 + ya), .int .i64 ((m : Int) + 2), .int .i64 0]) else .returned (.tuple #[.int .u64 0, .int .i64 0, .int .i64 3])) ∧ Below w.heap.size w w' := by
  have hd : x / 64 = 1 := by omega
  have e1 : bits BinOp.or .u64 (x % 64 * 256) ya = (x - 64) * 256 + ya := by rw [show x % 64 = x - 64 from by omega]; rw [or64 8 (by omega) (by omega) (by omega) (by omega) (by omega) (by omega)]
  have hsz := size_any ((x - 64) * 256 + ya)
  by_cases hs : siz ((x - 64) * 256 + ya) = 2
  · rw [if_pos hs]
    rw [hs] at hsz
    have HS := Lib.hid hsz
    clear hsz hs
    go_enter Try.func60, Try.ntmps60
    go_wp2_with fail
    all_goals refine wp_loop_rounds 2 ?_
    all_goals (rw [rounds_succ]; go_wp2_with fail)
    all_goals (rw [rounds_succ]; go_wp2_with fail)
    all_goals
      go_wp2_with (go_at_call 103; refine (HS.out _).mono ?_; rintro e w1 ⟨rfl, hb⟩)
      go_ret3
      exact ⟨rfl, hb⟩
  · rw [if_neg hs]
    have HS := Lib.hid hsz
    have hne : (siz ((x - 64) * 256 + ya) != 2) = true := by simpa using hs
    clear hsz hs
    go_enter Try.func60, Try.ntmps60
    go_wp2_with fail
    all_goals refine wp_loop_rounds 2 ?_
    all_goals (rw [rounds_succ]; go_wp2_with fail)
    all_goals (rw [rounds_succ]; go_wp2_with fail)
    all_goals
      go_wp2_with (go_at_call 103; refine (HS.out _).mono ?_; rintro e w1 ⟨rfl, hb⟩)
      go_ret3
      exact ⟨rfl, hb⟩

set_option maxHeartbeats 1600000 in
set_option maxRecDepth 100000 in
theorem get4 (l : List Int) (m b off c : Nat) (x ya yb yd : Int) (w : World) (hl : l.length ≤ 9223372036854775807) (hc : l.length ≤ c) (hm : m + 4 ≤ l.length)
    (hx : w.cell? ⟨b, off + m, none⟩ = some (.int .u8 x)) (ha : w.cell? ⟨b, off + (m + 1), none⟩ = some (.int .u8 ya)) (ha0 : 0 ≤ ya) (ha1 : ya < 256) (hb : w.cell? ⟨b, off + (m + 1) + 1, none⟩ = some (.int .u8 yb)) (hb0 : 0 ≤ yb) (hb1 : yb < 256) (hd : w.cell? ⟨b, off + (m + 1) + 2, none⟩ = some (.int .u8 yd)) (hd0 : 0 ≤ yd) (hd1 : yd < 256) (hx0 : 128 ≤ x) (hx1 : x < 192) :
    Calls Try.prog 60 #[.slice (some ⟨b, off, none⟩) l.length c, .int .i64 m] w fun e w' => e = (if siz ((((x - 128) * 256 + ya) * 256 + yb) * 256 + yd) = 4 then .returned (.tuple #[.int .u64 ((((x - 128) * 256 + ya) * 256 + yb) * 256 + yd), .int .i64 ((m : Int) + 4), .int .i64 0]) else .returned (.tuple #[.int .u64 0, .int .i64 0, .int .i64 3])) ∧ Below w.heap.size w w' := by
  have hd : x / 64 = 2 := by omega
  have e1 : bits BinOp.or .u64 (x % 64 * 256) ya = (x - 128) * 256 + ya := by rw [show x % 64 = x - 128 from by omega]; rw [or64 8 (by omega) (by omega) (by omega) (by omega) (by omega) (by omega)]
  have e2 : bits BinOp.or .u64 (((x - 128) * 256 + ya) * 256) yb = ((x - 128) * 256 + ya) * 256 + yb := by rw [or64 8 (by omega) (by omega) (by omega) (by omega) (by omega) (by omega)]
  have e3 : bits BinOp.or .u64 ((((x - 128) * 256 + ya) * 256 + yb) * 256) yd = (((x - 128) * 256 + ya) * 256 + yb) * 256 + yd := by rw [or64 8 (by omega) (by omega) (by omega) (by omega) (by omega) (by omega)]
  have hsz := size_any ((((x - 128) * 256 + ya) * 256 + yb) * 256 + yd)
  by_cases hs : siz ((((x - 128) * 256 + ya) * 256 + yb) * 256 + yd) = 4
  · rw [if_pos hs]
    rw [hs] at hsz
    have HS := Lib.hid hsz
    clear hsz hs
    go_enter Try.func60, Try.ntmps60
    go_wp2_with fail
    all_goals refine wp_loop_rounds 4 ?_
    all_goals (rw [rounds_succ]; go_wp2_with fail)
    all_goals (rw [rounds_succ]; go_wp2_with fail)
    all_goals (rw [rounds_succ]; go_wp2_with fail)
    all_goals (rw [rounds_succ]; go_wp2_with fail)
    all_goals
      go_wp2_with (go_at_call 103; refine (HS.out _).mono ?_; rintro e w1 ⟨rfl, hb⟩)
      go_ret3
      exact ⟨rfl, hb⟩
  · rw [if_neg hs]
    have HS := Lib.hid hsz
    have hne : (siz ((((x - 128) * 256 + ya) * 256 + yb) * 256 + yd) != 4) = true := by simpa using hs
    clear hsz hs
    go_enter Try.func60, Try.ntmps60
    go_wp2_with fail
    all_goals refine wp_loop_rounds 4 ?_
    all_goals (rw [rounds_succ]; go_wp2_with fail)
    all_goals (rw [rounds_succ]; go_wp2_with fail)
    all_goals (rw [rounds_succ]; go_wp2_with fail)
    all_goals (rw [rounds_succ]; go_wp2_with fail)
    all_goals
      go_wp2_with (go_at_call 103; refine (HS.out _).mono ?_; rintro e w1 ⟨rfl, hb⟩)
      go_ret3
      exact ⟨rfl, hb⟩

set_option maxHeartbeats 1600000 in
set_option maxRecDepth 100000 in
theorem get8 (l : List Int) (m b off c : Nat) (x ya yb yd ye yf yg yh : Int) (w : World) (hl : l.length ≤ 9223372036854775807) (hc : l.length ≤ c) (hm : m + 8 ≤ l.length)
    (hx : w.cell? ⟨b, off + m, none⟩ = some (.int .u8 x)) (ha : w.cell? ⟨b, off + (m + 1), none⟩ = some (.int .u8 ya)) (ha0 : 0 ≤ ya) (ha1 : ya < 256) (hb : w.cell? ⟨b, off + (m + 1) + 1, none⟩ = some (.int .u8 yb)) (hb0 : 0 ≤ yb) (hb1 : yb < 256) (hd : w.cell? ⟨b, off + (m + 1) + 2, none⟩ = some (.int .u8 yd)) (hd0 : 0 ≤ yd) (hd1 : yd < 256) (he : w.cell? ⟨b, off + (m + 1) + 3, none⟩ = some (.int .u8 ye)) (he0 : 0 ≤ ye) (he1 : ye < 256) (hf : w.cell? ⟨b, off + (m + 1) + 4, none⟩ = some (.int .u8 yf)) (hf0 : 0 ≤ yf) (hf1 : yf < 256) (hg : w.cell? ⟨b, off + (m + 1) + 5, none⟩ = some (.int .u8 yg)) (hg0 : 0 ≤ yg) (hg1 : yg < 256) (hh : w.cell? ⟨b, off + (m + 1) + 6, none⟩ = some (.int .u8 yh)) (hh0 : 0 ≤ yh) (hh1 : yh < 256) (hx0 : 192 ≤ x) (hx1 : x < 256) :
    Calls Try.prog 60 #[.slice (some ⟨b, off, none⟩) l.length c, .int .i64 m] w fun e w' => e = (if siz ((((((((x - 192) * 256 + ya) * 256 + yb) * 256 + yd) * 256 + ye) * 256 + yf) * 256 + yg) * 256 + yh) = 8 then .returned (.tuple #[.int .u64 ((((((((x - 192) * 256 + ya) * 256 + yb) * 256 + yd) * 256 + ye) * 256 + yf) * 256 + yg) * 256 + yh), .int .i64 ((m : Int) + 8), .int .i64 0]) else .returned (.tuple #[.int .u64 0, .int .i64 0, .int .i64 3])) ∧ Below w.heap.size w w' := by
  have hd : x / 64 = 3 := by omega
  have e1 : bits BinOp.or .u64 (x % 64 * 256) ya = (x - 192) * 256 + ya := by rw [show x % 64 = x - 192 from by omega]; rw [or64 8 (by omega) (by omega) (by omega) (by omega) (by omega) (by omega)]
  have e2 : bits BinOp.or .u64 (((x - 192) * 256 + ya) * 256) yb = ((x - 192) * 256 + ya) * 256 + yb := by rw [or64 8 (by omega) (by omega) (by omega) (by omega) (by omega) (by omega)]
  have e3 : bits BinOp.or .u64 ((((x - 192) * 256 + ya) * 256 + yb) * 256) yd = (((x - 192) * 256 + ya) * 256 + yb) * 256 + yd := by rw [or64 8 (by omega) (by omega) (by omega) (by omega) (by omega) (by omega)]
  have e4 : bits BinOp.or .u64 (((((x - 192) * 256 + ya) * 256 + yb) * 256 + yd) * 256) ye = ((((x - 192) * 256 + ya) * 256 + yb) * 256 + yd) * 256 + ye := by rw [or64 8 (by omega) (by omega) (by omega) (by omega) (by omega) (by omega)]
  have e5 : bits BinOp.or .u64 ((((((x - 192) * 256 + ya) * 256 + yb) * 256 + yd) * 256 + ye) * 256) yf = (((((x - 192) * 256 + ya) * 256 + yb) * 256 + yd) * 256 + ye) * 256 + yf := by rw [or64 8 (by omega) (by omega) (by omega) (by omega) (by omega) (by omega)]
  have e6 : bits BinOp.or .u64 (((((((x - 192) * 256 + ya) * 256 + yb) * 256 + yd) * 256 + ye) * 256 + yf) * 256) yg = ((((((x - 192) * 256 + ya) * 256 + yb) * 256 + yd) * 256 + ye) * 256 + yf) * 256 + yg := by rw [or64 8 (by omega) (by omega) (by omega) (by omega) (by omega) (by omega)]
  have e7 : bits BinOp.or .u64 ((((((((x - 192) * 256 + ya) * 256 + yb) * 256 + yd) * 256 + ye) * 256 + yf) * 256 + yg) * 256) yh = (((((((x - 192) * 256 + ya) * 256 + yb) * 256 + yd) * 256 + ye) * 256 + yf) * 256 + yg) * 256 + yh := by rw [or64 8 (by omega) (by omega) (by omega) (by omega) (by omega) (by omega)]
  have hsz := size_any ((((((((x - 192) * 256 + ya) * 256 + yb) * 256 + yd) * 256 + ye) * 256 + yf) * 256 + yg) * 256 + yh)
  by_cases hs : siz ((((((((x - 192) * 256 + ya) * 256 + yb) * 256 + yd) * 256 + ye) * 256 + yf) * 256 + yg) * 256 + yh) = 8
  · rw [if_pos hs]
    rw [hs] at hsz
    have HS := Lib.hid hsz
    clear hsz hs
    go_enter Try.func60, Try.ntmps60
    go_wp2_with fail
    all_goals refine wp_loop_rounds 8 ?_
    all_goals (rw [rounds_succ]; go_wp2_with fail)
    all_goals (rw [rounds_succ]; go_wp2_with fail)
    all_goals (rw [rounds_succ]; go_wp2_with fail)
    all_goals (rw [rounds_succ]; go_wp2_with fail)
    all_goals (rw [rounds_succ]; go_wp2_with fail)
    all_goals (rw [rounds_succ]; go_wp2_with fail)
    all_goals (rw [rounds_succ]; go_wp2_with fail)
    all_goals (rw [rounds_succ]; go_wp2_with fail)
    all_goals
      go_wp2_with (go_at_call 103; refine (HS.out _).mono ?_; rintro e w1 ⟨rfl, hb⟩)
      go_ret3
      exact ⟨rfl, hb⟩
  · rw [if_neg hs]
    have HS := Lib.hid hsz
    have hne : (siz ((((((((x - 192) * 256 + ya) * 256 + yb) * 256 + yd) * 256 + ye) * 256 + yf) * 256 + yg) * 256 + yh) != 8) = true := by simpa using hs
    clear hsz hs
    go_enter Try.func60, Try.ntmps60
    go_wp2_with fail
    all_goals refine wp_loop_rounds 8 ?_
    all_goals (rw [rounds_succ]; go_wp2_with fail)
    all_goals (rw [rounds_succ]; go_wp2_with fail)
    all_goals (rw [rounds_succ]; go_wp2_with fail)
    all_goals (rw [rounds_succ]; go_wp2_with fail)
    all_goals (rw [rounds_succ]; go_wp2_with fail)
    all_goals (rw [rounds_succ]; go_wp2_with fail)
    all_goals (rw [rounds_succ]; go_wp2_with fail)
    all_goals (rw [rounds_succ]; go_wp2_with fail)
    all_goals
      go_wp2_with (go_at_call 103; refine (HS.out _).mono ?_; rintro e w1 ⟨rfl, hb⟩)
      go_ret3
      exact ⟨rfl, hb⟩

/-- the walk's way out, ahead of the loop -/
def getR (l : List Int) (at_ : Int) : Int × Int × Int :=
  if at_ < 0 then (0, 0, 1) else if (l.length : Int) < at_ then (0, 0, 1) else
    if (dec (l.drop at_.toNat)).2.2 = 0 then ((dec (l.drop at_.toNat)).1, at_ + (dec (l.drop at_.toNat)).2.1, 0) else (0, 0, (dec (l.drop at_.toNat)).2.2)

set_option maxHeartbeats 800000 in
set_option maxRecDepth 100000 in
theorem get_arg (A : Option Addr) (n c : Nat) (i : Int) (w : World) (h : i < 0 ∨ (n : Int) < i) :
    Calls Try.prog 60 #[.slice A n c, .int .i64 i] w fun e w' => e = .returned (.tuple #[.int .u64 0, .int .i64 0, .int .i64 1]) ∧ Below w.heap.size w w' := by
  rcases h with h | h
  · have h1 : decide (i < 0) = true := by simpa using h
    go_enter Try.func60, Try.ntmps60
    go_wp2
    go_ret3
    exact ⟨rfl, Below.refl _ _⟩
  · have h1 : decide (i < 0) = false := by simp; omega
    go_enter Try.func60, Try.ntmps60
    go_wp2
    go_ret3
    exact ⟨rfl, Below.refl _ _⟩
set_option maxHeartbeats 800000 in
set_option maxRecDepth 100000 in
theorem get_end (A : Option Addr) (n c : Nat) (w : World) :
    Calls Try.prog 60 #[.slice A n c, .int .i64 n] w fun e w' => e = .returned (.tuple #[.int .u64 0, .int .i64 0, .int .i64 10]) ∧ Below w.heap.size w w' := by
  go_enter Try.func60, Try.ntmps60
  go_wp2
  go_ret3
  exact ⟨rfl, Below.refl _ _⟩
set_option maxHeartbeats 800000 in
set_option maxRecDepth 100000 in
theorem get_short (l : List Int) (m b off c : Nat) (x : Int) (w : World) (hl : l.length ≤ 9223372036854775807) (hm : m < l.length)
    (hx : w.cell? ⟨b, off + m, none⟩ = some (.int .u8 x)) (h : 64 ≤ x ∧ x < 128 ∧ l.length < m + 2 ∨ 128 ≤ x ∧ x < 192 ∧ l.length < m + 4 ∨ 192 ≤ x ∧ x < 256 ∧ l.length < m + 8) :
    Calls Try.prog 60 #[.slice (some ⟨b, off, none⟩) l.length c, .int .i64 m] w fun e w' => e = .returned (.tuple #[.int .u64 0, .int .i64 0, .int .i64 10]) ∧ Below w.heap.size w w' := by
  have h0 : ((m : Int) == (l.length : Int)) = false := by simp; omega
  rcases h with ⟨h1, h2, h3⟩ | ⟨h1, h2, h3⟩ | ⟨h1, h2, h3⟩
  · have hd : x / 64 = 1 := by omega
    have hs : decide ((l.length : Int) - (m : Int) < 2) = true := by simp; omega
    go_enter Try.func60, Try.ntmps60
    go_wp2
    go_ret3
    exact ⟨rfl, Below.refl _ _⟩
  · have hd : x / 64 = 2 := by omega
    have hs : decide ((l.length : Int) - (m : Int) < 4) = true := by simp; omega
    go_enter Try.func60, Try.ntmps60
    go_wp2
    go_ret3
    exact ⟨rfl, Below.refl _ _⟩
  · have hd : x / 64 = 3 := by omega
    have hs : decide ((l.length : Int) - (m : Int) < 8) = true := by simp; omega
    go_enter Try.func60, Try.ntmps60
    go_wp2
    go_ret3
    exact ⟨rfl, Below.refl _ _⟩
end Go.Proofs.Ythgdbdhonhkkpaa.V
