/-
  Parts of one proof, joined: seal: sealers that are nil or that no call made, Skip, what is too long or over, a bad New; a datagram whose nonce is 0. | aes: the document's Turn. | A region that draws its order, walked once, whose last operations come up one by one behind all others and may write whatever they like. | sha: the document's roots and primes, in plain Lean: digits below 4096, their product, what is compared, and the constants that come of them. | Two appends in one statement to two rows that are apart, of whatever types. | sha: the document's turn, down and prime; rows of whole numbers of any kind, known whole. | ctr: the document's Stream and Hide. | sha: the document's words.
-/
import Derived.Test.YtblnclooobggnaaZB0
import Derived.Test.YtblnclooobggnaaZB1
import Derived.Test.YtblnclooobggnaaZB2
import Derived.Test.YtblnclooobggnaaZB3
import Derived.Test.YtblnclooobggnaaZB4
import Derived.Test.YtblnclooobggnaaZB5

namespace Go.Proofs.Ytblnclooobggnaa.Se
open Go.RowKit Go.Proofs.Ytblnclooobggnaa.L Go.Proofs.Ytblnclooobggnaa.N Go.Proofs.Ytblnclooobggnaa.A Go.Proofs.Ytblnclooobggnaa.Mc Go.Proofs.YtblnclooobggnaaW.PrintWords

set_option maxRecDepth 100000 in
theorem made_nil (w : World) : Calls Try.prog 46 #[.pointer none] w fun e w' => e = .returned (.bool false) ∧ w' = w := by
  go_enter Try.func46, Try.ntmps46
  go_wp2_with fail
  go_ret
  exact ⟨rfl, rfl⟩
set_option maxRecDepth 100000 in
theorem made_zero (g : Nat) (w : World) (h : w.cell? ⟨g, 1, none⟩ = some (.pointer none)) : Calls Try.prog 46 #[.pointer (some ⟨g, 0, none⟩)] w fun e w' => e = .returned (.bool false) ∧ w' = w := by
  go_enter Try.func46, Try.ntmps46
  go_wp2_with fail
  go_ret
  exact ⟨rfl, rfl⟩
set_option maxRecDepth 100000 in
theorem seal_nil (v : Value) (w : World) : Calls Try.prog 29 #[.pointer none, v] w fun e w' => e = .returned (.tuple #[.slice none 0 0, .int .i64 6]) ∧ w' = w := by
  have HMd := Lib.hid (made_nil w)
  go_enter Try.func29, Try.ntmps29
  go_wp2_with fail
  refine HMd.out.mono ?_
  rintro e w1 ⟨rfl, hw⟩
  rw [hw]
  clear hw w1
  go_wp2_with fail
  exact bodyPost_ret (v := .tuple #[.slice none 0 0, .int .i64 6]) (by simp [results, Try.results29]) rfl ⟨rfl, rfl⟩
set_option maxRecDepth 100000 in
theorem open_zeroS (g : Nat) (v : Value) (w : World) (h : w.cell? ⟨g, 1, none⟩ = some (.pointer none)) : Calls Try.prog 31 #[.pointer (some ⟨g, 0, none⟩), v] w fun e w' => e = .returned (.tuple #[.int .u64 0, .slice none 0 0, .int .i64 6]) ∧ w' = w := by
  have HMd := Lib.hid (made_zero g w h)
  clear h
  go_enter Try.func31, Try.ntmps31
  go_wp2_with fail
  refine HMd.out.mono ?_
  rintro e w1 ⟨rfl, hw⟩
  rw [hw]
  clear hw w1
  go_wp2_with fail
  exact bodyPost_ret (v := .tuple #[.int .u64 0, .slice none 0 0, .int .i64 6]) (by simp [results, Try.results31]) rfl ⟨rfl, rfl⟩
set_option maxRecDepth 100000 in
theorem skip_nil (v : Value) (w : World) : Calls Try.prog 32 #[.pointer none, v] w fun e w' => e = .returned (.int .i64 6) ∧ w' = w := by
  have HMd := Lib.hid (made_nil w)
  go_enter Try.func32, Try.ntmps32
  go_wp2_with fail
  refine HMd.out.mono ?_
  rintro e w1 ⟨rfl, hw⟩
  rw [hw]
  clear hw w1
  go_wp2_with fail
  go_ret
  exact ⟨rfl, rfl⟩
set_option maxRecDepth 100000 in
theorem next_nil (w : World) : Calls Try.prog 30 #[.pointer none] w fun e w' => e = .returned (.int .u64 0) ∧ w' = w := by
  have HMd := Lib.hid (made_nil w)
  go_enter Try.func30, Try.ntmps30
  go_wp2_with fail
  refine HMd.out.mono ?_
  rintro e w1 ⟨rfl, hw⟩
  rw [hw]
  clear hw w1
  go_wp2_with fail
  go_ret
  exact ⟨rfl, rfl⟩
set_option maxRecDepth 100000 in
theorem next_zero (g : Nat) (w : World) (h : w.cell? ⟨g, 1, none⟩ = some (.pointer none)) : Calls Try.prog 30 #[.pointer (some ⟨g, 0, none⟩)] w fun e w' => e = .returned (.int .u64 0) ∧ w' = w := by
  have HMd := Lib.hid (made_zero g w h)
  clear h
  go_enter Try.func30, Try.ntmps30
  go_wp2_with fail
  refine HMd.out.mono ?_
  rintro e w1 ⟨rfl, hw⟩
  rw [hw]
  clear hw w1
  go_wp2_with fail
  go_ret
  exact ⟨rfl, rfl⟩
set_option maxRecDepth 100000 in
theorem next_over (g p : Nat) (w : World) (h : w.cell? ⟨g, 1, none⟩ = some (.pointer (some ⟨p, 0, none⟩))) (hn : w.cell? ⟨g, 18, none⟩ = some (.int .u64 9223372036854775808)) :
    Calls Try.prog 30 #[.pointer (some ⟨g, 0, none⟩)] w fun e w' => e = .returned (.int .u64 0) ∧ w' = w := by
  go_enter Try.func30, Try.ntmps30
  go_wp2_with fail
  refine (made_any g p w h).mono ?_
  rintro e w1 ⟨rfl, rfl⟩
  go_wp2_with fail
  refine (load64 g 18 9223372036854775808 _ hn).mono ?_
  rintro e w2 ⟨rfl, rfl⟩
  go_wp2_with fail
  go_ret
  exact ⟨rfl, rfl⟩
set_option maxRecDepth 100000 in
set_option maxHeartbeats 800000 in
theorem skip_low (g p nx n : Nat) (w : World) (h : w.cell? ⟨g, 1, none⟩ = some (.pointer (some ⟨p, 0, none⟩))) (hn : w.cell? ⟨g, 18, none⟩ = some (.int .u64 (nx : Int))) (hx : 1 ≤ nx ∧ nx ≤ 9223372036854775807) (hb : n < nx) :
    Calls Try.prog 32 #[.pointer (some ⟨g, 0, none⟩), .int .u64 (n : Int)] w fun e w' => e = .returned (.int .i64 1) ∧ w' = w := by
  have z1 : ((nx : Int) == 0) = false := by rw [beq_eq_false_iff_ne]; omega
  have z2 : (nx == 0) = false := by rw [beq_eq_false_iff_ne]; omega
  have HMd := Lib.hid (made_any g p w h)
  have HNx := Lib.hid (next_any g p nx w h hn (by omega))
  have y1 : (n : Int) < (nx : Int) := by omega
  have y2 : decide ((n : Int) < (nx : Int)) = true := decide_eq_true y1
  have y3 : decide (n < nx) = true := decide_eq_true hb
  clear h hx hb hn
  go_enter Try.func32, Try.ntmps32
  go_wp2_with fail
  refine HMd.out.mono ?_
  rintro e w1 ⟨rfl, hw⟩
  rw [hw]
  clear hw w1
  go_wp2_with fail
  refine HNx.out.mono ?_
  rintro e w1 ⟨rfl, hw⟩
  rw [hw]
  clear hw w1
  go_wp2_with fail
  refine HNx.out.mono ?_
  rintro e w1 ⟨rfl, hw⟩
  rw [hw]
  clear hw w1
  go_wp2_with fail
  go_ret
  exact ⟨rfl, rfl⟩
set_option maxRecDepth 100000 in
set_option maxHeartbeats 800000 in
theorem skip_high (g p nx n : Nat) (w : World) (h : w.cell? ⟨g, 1, none⟩ = some (.pointer (some ⟨p, 0, none⟩))) (hn : w.cell? ⟨g, 18, none⟩ = some (.int .u64 (nx : Int))) (hx : 1 ≤ nx ∧ nx ≤ 9223372036854775807) (hb : 9223372036854775807 < n) :
    Calls Try.prog 32 #[.pointer (some ⟨g, 0, none⟩), .int .u64 (n : Int)] w fun e w' => e = .returned (.int .i64 1) ∧ w' = w := by
  have z1 : ((nx : Int) == 0) = false := by rw [beq_eq_false_iff_ne]; omega
  have z2 : (nx == 0) = false := by rw [beq_eq_false_iff_ne]; omega
  have HMd := Lib.hid (made_any g p w h)
  have HNx := Lib.hid (next_any g p nx w h hn (by omega))
  have y1 : ¬ (n : Int) < (nx : Int) := by omega
  have y2 : decide ((n : Int) < (nx : Int)) = false := decide_eq_false y1
  have y3 : decide (n < nx) = false := decide_eq_false (by omega)
  have y4 : (9223372036854775807 : Int) < (n : Int) := by omega
  have y5 : decide ((9223372036854775807 : Int) < (n : Int)) = true := decide_eq_true y4
  clear h hx hb hn
  go_enter Try.func32, Try.ntmps32
  go_wp2_with fail
  refine HMd.out.mono ?_
  rintro e w1 ⟨rfl, hw⟩
  rw [hw]
  clear hw w1
  go_wp2_with fail
  refine HNx.out.mono ?_
  rintro e w1 ⟨rfl, hw⟩
  rw [hw]
  clear hw w1
  go_wp2_with fail
  refine HNx.out.mono ?_
  rintro e w1 ⟨rfl, hw⟩
  rw [hw]
  clear hw w1
  go_wp2_with fail
  go_ret
  exact ⟨rfl, rfl⟩
set_option maxRecDepth 100000 in
set_option maxHeartbeats 800000 in
theorem skip_ok (g p nx n : Nat) (w : World) (h : w.cell? ⟨g, 1, none⟩ = some (.pointer (some ⟨p, 0, none⟩))) (hn : w.cell? ⟨g, 18, none⟩ = some (.int .u64 (nx : Int))) (hf : w.frozen? ⟨g, 18, none⟩ = false) (hx : 1 ≤ nx ∧ nx ≤ 9223372036854775807) (hb : nx ≤ n ∧ n ≤ 9223372036854775807) :
    Calls Try.prog 32 #[.pointer (some ⟨g, 0, none⟩), .int .u64 (n : Int)] w fun e w' => e = .returned (.int .i64 0) ∧ w' = w.setCell ⟨g, 18, none⟩ (.int .u64 (n : Int)) := by
  have z1 : ((nx : Int) == 0) = false := by rw [beq_eq_false_iff_ne]; omega
  have z2 : (nx == 0) = false := by rw [beq_eq_false_iff_ne]; omega
  have HMd := Lib.hid (made_any g p w h)
  have HNx := Lib.hid (next_any g p nx w h hn (by omega))
  have y1 : ¬ (n : Int) < (nx : Int) := by omega
  have y2 : decide ((n : Int) < (nx : Int)) = false := decide_eq_false y1
  have y3 : decide (n < nx) = false := decide_eq_false (by omega)
  have y4 : ¬ (9223372036854775807 : Int) < (n : Int) := by omega
  have y5 : decide ((9223372036854775807 : Int) < (n : Int)) = false := decide_eq_false y4
  have HSt := Lib.hid (store64 g 18 (nx : Int) (n : Int) w hn hf)
  clear h hx hb hn hf
  go_enter Try.func32, Try.ntmps32
  go_wp2_with fail
  refine HMd.out.mono ?_
  rintro e w1 ⟨rfl, hw⟩
  rw [hw]
  clear hw w1
  go_wp2_with fail
  refine HNx.out.mono ?_
  rintro e w1 ⟨rfl, hw⟩
  rw [hw]
  clear hw w1
  go_wp2_with fail
  refine HNx.out.mono ?_
  rintro e w1 ⟨rfl, hw⟩
  rw [hw]
  clear hw w1
  go_wp2_with fail
  refine HSt.out.mono ?_
  rintro e w1 ⟨rfl, hw⟩
  rw [hw]
  clear hw w1
  go_wp2_with fail
  go_ret
  exact ⟨rfl, rfl⟩
set_option maxRecDepth 100000 in
theorem skip_over (g p : Nat) (n : Int) (w : World) (h : w.cell? ⟨g, 1, none⟩ = some (.pointer (some ⟨p, 0, none⟩))) (hn : w.cell? ⟨g, 18, none⟩ = some (.int .u64 9223372036854775808)) :
    Calls Try.prog 32 #[.pointer (some ⟨g, 0, none⟩), .int .u64 n] w fun e w' => e = .returned (.int .i64 1) ∧ w' = w := by
  have HMd := Lib.hid (made_any g p w h)
  have HNx := Lib.hid (next_over g p w h hn)
  clear h hn
  go_enter Try.func32, Try.ntmps32
  go_wp2_with fail
  refine HMd.out.mono ?_
  rintro e w1 ⟨rfl, hw⟩
  rw [hw]
  clear hw w1
  go_wp2_with fail
  refine HNx.out.mono ?_
  rintro e w1 ⟨rfl, hw⟩
  rw [hw]
  clear hw w1
  go_wp2_with fail
  go_ret
  exact ⟨rfl, rfl⟩
set_option maxRecDepth 100000 in
theorem seal_long (g p : Nat) (n c : Nat) (A : Option Addr) (w : World) (h : w.cell? ⟨g, 1, none⟩ = some (.pointer (some ⟨p, 0, none⟩))) (hl : 512 < n) (hm : n ≤ 9223372036854775807) :
    Calls Try.prog 29 #[.pointer (some ⟨g, 0, none⟩), .slice A n c] w fun e w' => e = .returned (.tuple #[.slice none 0 0, .int .i64 2]) ∧ w' = w := by
  have HMd := Lib.hid (made_any g p w h)
  have z1 : (512 : Int) < (n : Int) := by omega
  have z2 : decide ((512 : Int) < (n : Int)) = true := decide_eq_true z1
  clear h hl hm
  go_enter Try.func29, Try.ntmps29
  go_wp2_with fail
  refine HMd.out.mono ?_
  rintro e w1 ⟨rfl, hw⟩
  rw [hw]
  clear hw w1
  go_wp2_with fail
  exact bodyPost_ret (v := .tuple #[.slice none 0 0, .int .i64 2]) (by simp [results, Try.results29]) rfl ⟨rfl, rfl⟩
set_option maxRecDepth 100000 in
theorem seal_over (g p : Nat) (n c : Nat) (A : Option Addr) (w : World) (h : w.cell? ⟨g, 1, none⟩ = some (.pointer (some ⟨p, 0, none⟩))) (hn : w.cell? ⟨g, 18, none⟩ = some (.int .u64 9223372036854775808)) (hl : n ≤ 512) :
    Calls Try.prog 29 #[.pointer (some ⟨g, 0, none⟩), .slice A n c] w fun e w' => e = .returned (.tuple #[.slice none 0 0, .int .i64 22]) ∧ w' = w := by
  have HMd := Lib.hid (made_any g p w h)
  have HNx := Lib.hid (next_over g p w h hn)
  have z1 : ¬ (512 : Int) < (n : Int) := by omega
  have z2 : decide ((512 : Int) < (n : Int)) = false := decide_eq_false z1
  clear h hl hn
  go_enter Try.func29, Try.ntmps29
  go_wp2_with fail
  refine HMd.out.mono ?_
  rintro e w1 ⟨rfl, hw⟩
  rw [hw]
  clear hw w1
  go_wp2_with fail
  refine HNx.out.mono ?_
  rintro e w1 ⟨rfl, hw⟩
  rw [hw]
  clear hw w1
  go_wp2_with fail
  exact bodyPost_ret (v := .tuple #[.slice none 0 0, .int .i64 22]) (by simp [results, Try.results29]) rfl ⟨rfl, rfl⟩
set_option maxRecDepth 100000 in
theorem open_long (g p : Nat) (n c : Nat) (A : Option Addr) (w : World) (h : w.cell? ⟨g, 1, none⟩ = some (.pointer (some ⟨p, 0, none⟩))) (hl : 536 < n) (hm : n ≤ 9223372036854775807) :
    Calls Try.prog 31 #[.pointer (some ⟨g, 0, none⟩), .slice A n c] w fun e w' => e = .returned (.tuple #[.int .u64 0, .slice none 0 0, .int .i64 2]) ∧ w' = w := by
  have HMd := Lib.hid (made_any g p w h)
  have z1 : (536 : Int) < (n : Int) := by omega
  have z2 : decide ((536 : Int) < (n : Int)) = true := decide_eq_true z1
  have z3 : ¬ (n : Int) < 24 := by omega
  have z4 : decide ((n : Int) < 24) = false := decide_eq_false z3
  clear h hl hm
  go_enter Try.func31, Try.ntmps31
  go_wp2_with fail
  refine HMd.out.mono ?_
  rintro e w1 ⟨rfl, hw⟩
  rw [hw]
  clear hw w1
  go_wp2_with fail
  exact bodyPost_ret (v := .tuple #[.int .u64 0, .slice none 0 0, .int .i64 2]) (by simp [results, Try.results31]) rfl ⟨rfl, rfl⟩
set_option maxRecDepth 100000 in
theorem newseal_side (A : Option Addr) (n c : Nat) (side : Int) (w : World) (h0 : side ≠ 0) (h1 : side ≠ 1) :
    Calls Try.prog 28 #[.slice A n c, .int .i64 side] w fun e w' => e = .returned (.tuple #[.pointer none, .int .i64 1]) ∧ w' = w := by
  have t0 : (side != 0) = true := by rw [bne_iff_ne]; exact h0
  have t1 : (side != 1) = true := by rw [bne_iff_ne]; exact h1
  clear h0 h1
  go_enter Try.func28, Try.ntmps28
  go_wp2_with fail
  exact bodyPost_ret (v := .tuple #[.pointer none, .int .i64 1]) (by simp [results, Try.results28]) rfl ⟨rfl, rfl⟩
set_option maxRecDepth 100000 in
set_option maxHeartbeats 800000 in
theorem newseal_empty (A : Option Addr) (c : Nat) (side : Int) (w : World) (h : side = 0 ∨ side = 1) :
    Calls Try.prog 28 #[.slice A 0 c, .int .i64 side] w fun e w' => e = .returned (.tuple #[.pointer none, .int .i64 1]) ∧ Below w.heap.size w w' := by
  have HD := Lib.hid (fun W => derive_bad 0 A c { data := #[104, 105, 100, 101] } 0 W (.inl rfl) (by decide))
  obtain ⟨P, hP⟩ : ∃ P : List Nat, Mc.z16 = P := ⟨_, rfl⟩
  have HPl := Lib.hid (show P.length = 16 from by rw [← hP]; rfl)
  rcases h with rfl | rfl
  · go_enter Try.func28, Try.ntmps28
    go_wp2_with fail
    refine (HD.out w).mono ?_
    rintro e w1 ⟨rfl, hb1⟩
    rw [hP]
    have HB1 := Lib.hid hb1
    clear hb1 HD hP
    go_wp2_with (refine store_ab .u8 w1.heap.size Mc.z16 P rfl rfl rfl rfl rfl (AB.mk w1 .u8 Mc.tKey Mc.z16) (by rw [HPl.out]; exact Mc.info_key) (by rw [HPl.out]; rfl) ?_; intro W2 h5 hg5; (have HG5 := Lib.hid hg5); clear h5 hg5)
    obtain ⟨hb2, _⟩ := below_new HG5.out
    exact bodyPost_ret (v := .tuple #[.pointer none, .int .i64 1]) (by simp [results, Try.results28]) rfl ⟨rfl, HB1.out.trans (hb2.mono HB1.out.size)⟩
  · go_enter Try.func28, Try.ntmps28
    go_wp2_with fail
    refine (HD.out w).mono ?_
    rintro e w1 ⟨rfl, hb1⟩
    rw [hP]
    have HB1 := Lib.hid hb1
    clear hb1 HD hP
    go_wp2_with (refine store_ab .u8 w1.heap.size Mc.z16 P rfl rfl rfl rfl rfl (AB.mk w1 .u8 Mc.tKey Mc.z16) (by rw [HPl.out]; exact Mc.info_key) (by rw [HPl.out]; rfl) ?_; intro W2 h5 hg5; (have HG5 := Lib.hid hg5); clear h5 hg5)
    obtain ⟨hb2, _⟩ := below_new HG5.out
    exact bodyPost_ret (v := .tuple #[.pointer none, .int .i64 1]) (by simp [results, Try.results28]) rfl ⟨rfl, HB1.out.trans (hb2.mono HB1.out.size)⟩
set_option maxRecDepth 100000 in
set_option maxHeartbeats 6400000 in
theorem open_none (g p q side s2 nx tn : Nat) (kh km l : List Nat) (A : Option Addr) (c : Nat) (w : World) (h : SE g p q side kh km nx tn w) (hs2 : s2 = 0 ∨ s2 = 1) (hm8 : ∀ x ∈ km, x < 256) (hC : (Kd.int .u8).C w A l.length (nat l)) (hc : l.length ≤ c) (hl8 : ∀ x ∈ l, x < 256) (h24 : 24 ≤ l.length) (h536 : l.length ≤ 536) (hr : rightN km (l.drop (l.length - 16)) (l.take (l.length - 16)) = true) (hb : ∀ k, k < 8 → l.getD k 0 = (be8 (numN s2 0)).getD k 0) :
    Calls Try.prog 31 #[.pointer (some ⟨g, 0, none⟩), .slice A l.length c] w fun e w' => e = .returned (.tuple #[.int .u64 0, .slice none 0 0, .int .i64 21]) ∧ Below w.heap.size w w' := by
  have HBy := Lib.hid hb
  have hN : numN s2 0 < 2 ^ 64 := by unfold numN; rcases hs2 with rfl | rfl <;> omega
  have hmd := num_mod hs2 (show 0 ≤ 9223372036854775807 by decide)
  obtain ⟨N, hNN⟩ : ∃ N, numN s2 0 = N := ⟨_, rfl⟩
  rw [hNN] at HBy hN hmd
  have HN := Lib.hid hN
  have han := andn_top N hN
  rw [hmd] at han
  clear hb hN hs2 hmd hNN
  have HMd := Lib.hid (made_any g p w h.c1)
  have HS := Lib.hid h
  have HC := Lib.hid hC
  have HL8 := Lib.hid hl8
  have HM8 := Lib.hid hm8
  have HRt := Lib.hid hr
  obtain ⟨m, hm⟩ : ∃ m, l.length - 16 = m := ⟨_, rfl⟩
  have HL := Lib.hid (show l.length = m + 16 ∧ 8 ≤ m ∧ m ≤ 520 ∧ m + 16 ≤ c from by omega)
  have zm : (l.length : Int) - 16 = (m : Int) := by omega
  obtain ⟨hct, hctC⟩ := cutT A l.length c (m : Int) m rfl (by omega) hc
  obtain ⟨A2, c2, hcf, hc2, hcfC⟩ := cutF A l.length c (m : Int) m rfl (by omega) hc
  rw [show l.length - m = 16 from by omega] at hcf hc2 hcfC
  have HT := Lib.hid (fun W hW => hctC W l hW)
  have HF := Lib.hid (fun W hW => hcfC W l hW)
  have hkc := key_all g
  have z1 : ¬ (l.length : Int) < 24 := by omega
  have z2 : decide ((l.length : Int) < 24) = false := decide_eq_false z1
  have z3 : ¬ (536 : Int) < (l.length : Int) := by omega
  have z4 : decide ((536 : Int) < (l.length : Int)) = false := decide_eq_false z3
  have z5 : (l.length : Int) ≤ 536 := by omega
  have z6 : (0 : Int) ≤ (m : Int) := by omega
  rw [hm] at HRt
  have hhd := (cutT A m c 8 8 rfl (by omega) (by omega)).1
  obtain ⟨ba, oa, rfl, hba, hca⟩ := B_at hC (by omega)
  have HCa := Lib.hid hca
  have HBa := Lib.hid hba
  clear h hm8 hC hc hl8 h24 h536 hr hm hctC hcfC hc2 hba hca
  go_enter Try.func31, Try.ntmps31
  go_wp2_with fail
  refine HMd.out.mono ?_
  rintro e w1 ⟨rfl, hw⟩
  rw [hw]
  clear hw w1
  go_wp2_with fail
  refine Q.wp_region_segs none [([0, 1, 2, 3, 4, 5, 6, 7, 8, 9], some 10), ([], some 11), ([12], none)] (by kernel_rfl) (by kernel_rfl) (by kernel_rfl) (by kernel_rfl) ?_
  dsimp only [Q.wpSegs, Q.picks, Q.pick]
  repeat (go_big_quiet_step (fail))
  refine wpQuiet_nil ?_
  go_wp2_with fail
  refine Q.ev_keep ((Below.refl _ _).alloc (Nat.le_refl _) _) (Nat.le_refl _) ?_
  refine wpQuiet_nil ?_
  have hb1 : Below w.heap.size w w.drew := (Below.refl _ _).drew
  have hq := right_any km (l.drop m) [l.take m] (some ⟨g, 2, none⟩) A2 (some ⟨w.heap.size, 0, none⟩) 16 c2 1 (w.drew.alloc (.cells #[.slice (some ⟨ba, oa, none⟩) m c] 41)) (Kd.C_alloc (HS.out.keep hb1).key _) (by rw [HS.out.len]; omega) HM8.out (by rw [HS.out.len]; omega) (by rw [List.length_drop, HL.out.1, show m + 16 - m = 16 from by omega]; exact Kd.C_alloc (HF.out _ (Kd.C_below HC.out hb1)) _) (fun x hx => HL8.out x (List.mem_of_mem_drop hx))
    (by have := RB_one (l := l.take m) (A := some ⟨ba, oa, none⟩) (c := c) 41 (w := w.drew) (by rw [List.length_take, Nat.min_eq_left (by have := HL.out; omega)]; exact HT.out _ (Kd.C_below HC.out hb1)) (fun x hx => HL8.out x (List.mem_of_mem_take hx)) (by rw [List.length_take]; have := HL.out; omega); rw [List.length_take, Nat.min_eq_left (by have := HL.out; omega)] at this; exact this) (by simp) (by simp; have := HL.out; omega)
  rw [show ([l.take m] : List (List Nat)).flatten = l.take m from by simp, HS.out.len, HRt.out, List.length_drop, HL.out.1, show m + 16 - m = 16 from by omega] at hq
  have HQ := Lib.hid hq
  have hsz : (w.drew.alloc (.cells #[.slice (some ⟨ba, oa, none⟩) m c] 41)).heap.size = w.heap.size + 1 := by rw [alloc_size]; rfl
  have hbb : Below w.heap.size w (w.drew.alloc (.cells #[.slice (some ⟨ba, oa, none⟩) m c] 41)) := hb1.alloc (Nat.le_refl _) _
  have HBb := Lib.hid hbb
  have HSz := Lib.hid hsz
  clear hq hb1 hsz hbb
  go_wp2_with fail
  refine HQ.out.mono ?_
  rintro e w3 ⟨rfl, hb3⟩
  have HB3 := Lib.hid (HBb.out.trans (hb3.mono (by rw [HSz.out]; omega)))
  have HB4 := Lib.hid hb3
  clear hb3
  go_wp2_with fail
  refine Q.ev_keep HB4.out (by show w.heap.size ≤ (w.alloc (.cells #[.slice (some ⟨ba, oa, none⟩) m c] 41)).heap.size; rw [alloc_size]; omega) ?_
  repeat (go_big_quiet_step (fail))
  refine wpQuiet_nil ?_
  refine NoPanic.normal ?_
  clear HC HT HF HQ HBb HB4
  go_wp2_with fail
  go_loopg [47, 8, 10] 10 (fun g' v47 v8 v10 w' => ∃ k : Nat, v47 = .int .i64 (k : Int) ∧ v8 = .int .u64 (hdN N k : Nat) ∧ Hid (k ≤ 8 ∧ 8 < g' + k) ∧ Hid (Below w.heap.size w w'))
  case atStart => exact ⟨0, rfl, by rw [hd_zero HN.out]; rfl, Lib.hid ⟨by omega, by omega⟩, HB3⟩
  case round =>
    obtain ⟨k, rfl, rfl, HJ, HBr⟩ := hrel
    clear HB3
    cases gk with
    | zero => have := HJ.out; omega
    | succ g1 =>
      by_cases hk : k < 8
      · have HJ' := Lib.hid (show k < 8 ∧ 8 < (g1 + 1) + k from ⟨hk, HJ.out.2⟩)
        have x0 : (k : Int) < 8 := by omega
        have x1 : (0 : Int) ≤ (k : Int) := by omega
        have c1 := (HBr.out.cell (p := ⟨ba, oa + k, none⟩) HBa.out).trans (HCa.out k (by have := HL.out; omega))
        have hlt := hd_lt HN.out hk
        have hst := hd_step (N := N) hk
        rw [HBy.out k hk] at c1
        have hy : (be8 N).getD k 0 < 256 := be8_lt N _ (by rw [List.getD_eq_getElem?_getD, List.getElem?_eq_getElem (by rw [be8_len]; exact hk)]; exact List.getElem_mem _)
        obtain ⟨y, hyy⟩ : ∃ y, (be8 N).getD k 0 = y := ⟨_, rfl⟩
        obtain ⟨v, hvv⟩ : ∃ v, hdN N k = v := ⟨_, rfl⟩
        obtain ⟨v', hvv'⟩ : ∃ v, hdN N (k + 1) = v := ⟨_, rfl⟩
        rw [hyy] at c1 hst hy
        rw [hvv] at hst hlt
        rw [hvv'] at hst
        have b1 := shl_or hlt hy
        rw [hst] at b1
        have x2 : (v : Int) < 72057594037927936 := by omega
        have x3 : (0 : Int) ≤ (v : Int) := by omega
        have x4 : (y : Int) < 256 := by omega
        have x5 : (0 : Int) ≤ (y : Int) := by omega
        rw [hvv]
        have HV := Lib.hid hvv'
        clear hyy hvv hvv' hst hlt hy hk HJ
        go_wp2_with fail
        clear c1 b1
        go_roundg g1
        case measure => have := HJ'.out; omega
        case rel => exact ⟨k + 1, by go_num, by rw [HV.out], Lib.hid (by have := HJ'.out; omega), HBr⟩
      · obtain rfl : k = 8 := by have := HJ.out; omega
        rw [hd_all]
        have HSr := Lib.hid (HS.out.keep HBr.out)
        clear hk HJ HS HCa HBy
        have c0 := HSr.out.c0
        have c1 := HSr.out.c1
        go_wp2_with fail
        exact bodyPost_ret (v := .tuple #[.int .u64 0, .slice none 0 0, .int .i64 21]) (by simp [results, Try.results31]) rfl ⟨rfl, HBr.out⟩
end Go.Proofs.Ytblnclooobggnaa.Se

namespace Go.Proofs.Ytblnclooobggnaa.A
open Go.RowKit Go.Proofs.Ytblnclooobggnaa.L Go.Proofs.Ytblnclooobggnaa.N Go.Proofs.YtblnclooobggnaaW.PrintWords

theorem addK_get' (key b : List Nat) {i : Nat} (hi : i < 16) : (addK key b).getD i 0 = b.getD i 0 ^^^ (WK key).getD (4 * (i / 4) + i % 4) 0 := by
  unfold addK
  rw [g16_get _ hi, show 4 * (i / 4) + i % 4 = i from by omega]
theorem subS_get' (s : List Nat) {i : Nat} (hi : i < 16) : (subS s).getD i 0 = bxv (s.getD (4 * ((i / 4 + i % 4) % 4) + i % 4) 0) := by
  unfold subS
  rw [g16_get _ hi]
  rfl
theorem subS_len (s : List Nat) : (subS s).length = 16 := g16_len _
theorem ix4 {q m : Nat} (hq : q < 4) (hm : m < 4) : (0 : Int) ≤ (q : Int) * 4 + (m : Int) ∧ (q : Int) * 4 + (m : Int) < 16 ∧ ((q : Int) * 4 + (m : Int)).toNat = 4 * q + m ∧ (0 : Int) ≤ 4 * (q : Int) + (m : Int) ∧ 4 * (q : Int) + (m : Int) < 16 ∧ (4 * (q : Int) + (m : Int)).toNat = 4 * q + m := by omega
theorem mod4 {i c m : Nat} (h : (i + c) % 4 = m) : ((i : Int) + (c : Int)).tmod 4 = (m : Int) ∧ ((i : Int) + (c : Int)) % 4 = (m : Int) ∧ m < 4 := by
  refine ⟨by rw [Int.tmod_eq_emod_of_nonneg (by omega)]; omega, by omega, by omega⟩
theorem mod4a {i m : Nat} (h : (i + 1) % 4 = m) : ((i : Int) + 1).tmod 4 = (m : Int) ∧ ((i : Int) + 1) % 4 = (m : Int) ∧ m < 4 := mod4 (c := 1) h
theorem mod4b {i m : Nat} (h : (i + 2) % 4 = m) : ((i : Int) + 2).tmod 4 = (m : Int) ∧ ((i : Int) + 2) % 4 = (m : Int) ∧ m < 4 := mod4 (c := 2) h
theorem mod4c {i m : Nat} (h : (i + 3) % 4 = m) : ((i : Int) + 3).tmod 4 = (m : Int) ∧ ((i : Int) + 3) % 4 = (m : Int) ∧ m < 4 := mod4 (c := 3) h
theorem div16 {i q r : Nat} (hi : i < 16) (hq : i / 4 = q) (hr : i % 4 = r) : (i : Int).tdiv 4 = (q : Int) ∧ (i : Int) / 4 = (q : Int) ∧ (i : Int).tmod 4 = (r : Int) ∧ (i : Int) % 4 = (r : Int) ∧ q < 4 ∧ r < 4 ∧ (q : Int) < 4 ∧ (r : Int) < 4 ∧ (0 : Int) ≤ (q : Int) ∧ (0 : Int) ≤ (r : Int) ∧ (i : Int) < 16 ∧ (0 : Int) ≤ (i : Int) := by
  refine ⟨by rw [Int.tdiv_eq_ediv_of_nonneg (by omega)]; omega, by omega, by rw [Int.tmod_eq_emod_of_nonneg (by omega)]; omega, by omega, by omega, by omega, by omega, by omega, by omega, by omega, by omega, by omega⟩
theorem ixw {rr q : Nat} (hr : rr < 10) (hq : q < 4) : (0 : Int) ≤ 4 * ((rr : Int) + 1) + (q : Int) ∧ 4 * ((rr : Int) + 1) + (q : Int) < 44 ∧ (4 * ((rr : Int) + 1) + (q : Int)).toNat = 4 * (rr + 1) + q ∧ (0 : Int) ≤ 4 * (rr : Int) + 4 + (q : Int) ∧ 4 * (rr : Int) + 4 + (q : Int) < 44 ∧ (4 * (rr : Int) + 4 + (q : Int)).toNat = 4 * (rr + 1) + q := by omega
theorem rnd_get1 (key : List Nat) {r : Nat} (hr : r < 10) (s : List Nat) {i : Nat} (hi : i < 16) : (rnd key r s).getD i 0 =
    (((rmul 2 ((subS s).getD i 0) ^^^ rmul 3 ((subS s).getD (4 * (i / 4) + (i + 1) % 4) 0)) ^^^ (subS s).getD (4 * (i / 4) + (i + 2) % 4) 0) ^^^ (subS s).getD (4 * (i / 4) + (i + 3) % 4) 0) ^^^ (WK key).getD (4 * (4 * r + i / 4) + i % 4) 0 := by
  unfold rnd
  rw [g16_get _ hi, show 4 * (4 * r + i / 4) + i % 4 = 16 * r + i from by omega]
  unfold rowT
  rw [if_pos hr, mixN_get _ (by omega), mixB_ref (rowR_len s (by omega)) (rowR_lt s _) (by omega), rowR_get _ (by omega), rowR_get _ (by omega), rowR_get _ (by omega), rowR_get _ (by omega),
    show 4 * (i / 4) + i % 4 = i from by omega, show (i % 4 + 1) % 4 = (i + 1) % 4 from by omega, show (i % 4 + 2) % 4 = (i + 2) % 4 from by omega, show (i % 4 + 3) % 4 = (i + 3) % 4 from by omega]
theorem rnd_get2 (key : List Nat) {r : Nat} (hr : ¬ r < 10) (s : List Nat) {i : Nat} (hi : i < 16) : (rnd key r s).getD i 0 = (subS s).getD i 0 ^^^ (WK key).getD (4 * (4 * r + i / 4) + i % 4) 0 := by
  unfold rnd
  rw [g16_get _ hi, show 4 * (4 * r + i / 4) + i % 4 = 16 * r + i from by omega]
  unfold rowT
  rw [if_neg hr, rowR_get _ (by omega), show 4 * (i / 4) + i % 4 = i from by omega]
theorem gwC {W0 w : World} {n1 : Nat} {p : Addr} {v : Value} (hb : p.block < n1) (h : W0.cell? p = some v) (hB : Below n1 W0 w) : w.cell? p = some v := (World.cell?_of_block (w := W0) (a := p) (hB.block _ hb)).trans h
theorem C_at16 {w : World} {k : IntKind} {A : Option Addr} {l : List Nat} (h : (Kd.int k).C w A 16 (nat l)) (hl : l.length = 16) : ∃ b off, A = some ⟨b, off, none⟩ ∧ b < w.heap.size ∧ ∀ j, j < 16 → w.cell? ⟨b, off + j, none⟩ = some (.int k (l.getD j 0 : Nat)) := by
  rw [← hl] at h ⊢
  exact B_at h (by omega)
theorem R_C16 {k : IntKind} {e : TypeId} {w : World} {B : Nat} {v : Value} {l : List Nat} (h : (Kd.int k).R e w B (fun _ => True) v (nat l)) (hl : l.length = 16) : ∃ A c, v = .slice A 16 c ∧ 16 ≤ c ∧ (Kd.int k).C w A 16 (nat l) := by
  obtain ⟨A, c, h1, h2, h3⟩ := Kd.R_reads h
  rw [nat_length, hl] at h1 h2 h3
  exact ⟨A, c, h1, h2, h3⟩
theorem lit_b {W w : World} {y : Int} {e : TypeId} (h : W = w.alloc (.cells #[.int .u8 y] e)) : (Kd.int .u8).C W (some ⟨w.heap.size, 0, none⟩) 1 [y] := by
  have hg : W.heap[w.heap.size]? = some (.cells #[.int .u8 y] e (0, 0)) := h ▸ heap_alloc_new w _
  have hR := R_of_blk (k := .u8) (l := [y]) (B := 0) (by simpa using hg) (Nat.zero_le _) (show 1 ≤ maxLen from by decide)
  exact (Kd.R_reads' hR).2.2
theorem turnP_len' (key b : List Nat) : (turnP key b).length = 16 := rnds_len key b 10
set_option maxRecDepth 100000 in
set_option maxHeartbeats 6400000 in
theorem refturn_any (key b : List Nat) (A A1 A2 : Option Addr) (c c1 c2 : Nat) (w : World) (hC : (Kd.int .u8).C w A 16 (nat key)) (hk : key.length = 16) (hk8 : ∀ x ∈ key, x < 256) (hCb : (Kd.int .u8).C w A1 16 (nat b)) (hb : b.length = 16) (hb8 : ∀ x ∈ b, x < 256) (hC2 : (Kd.int .i64).C w A2 256 (nat boxT)) :
    Calls Try.prog 21 #[.slice A 16 c, .slice A1 16 c1, .slice A2 256 c2] w fun e w' => ∃ A' c', e = .returned (.slice A' 16 c') ∧ 16 ≤ c' ∧ (Kd.int .u8).C w' A' 16 (nat (turnP key b)) ∧ Below w.heap.size w w' := by
  have HW := Lib.hid (refwords_any key A A2 c c2 w hC hk hk8 hC2)
  obtain ⟨b1, o1, rfl, hb1, hc1⟩ := C_at16 hCb hb
  rw [← boxT_len] at hC2
  obtain ⟨b2, o2, rfl, hb2, hc2⟩ := B_at hC2 (by rw [boxT_len]; decide)
  rw [boxT_len] at hc2
  have HC1 := Lib.hid hc1
  have HC2 := Lib.hid hc2
  have HLt := Lib.hid (show b1 < w.heap.size ∧ b2 < w.heap.size from ⟨hb1, hb2⟩)
  have HK := Lib.hid (show (∀ x ∈ key, x < 256) ∧ ∀ x ∈ b, x < 256 from ⟨hk8, hb8⟩)
  have HWl := Lib.hid (WK_lt hk8)
  clear hC hC2 hc1 hc2 hb1 hb2 hk hk8 hb hb8 hCb
  go_enter Try.func21, Try.ntmps21
  go_wp2_with (go_at_call 20; refine HW.out.mono ?_; rintro e Wb ⟨vw, rfl, hwd, hbb⟩; (have HWD := Lib.hid hwd); (have HBb := Lib.hid hbb); clear hwd hbb)
  obtain ⟨b7, o7, c7, rfl, hb7, _, hat7⟩ := HWD.out
  have HAt7 := Lib.hid hat7
  obtain ⟨n1, hn1⟩ : ∃ y, Wb.heap.size = y := ⟨_, rfl⟩
  have Hn1 := Lib.hid hn1
  have HLb := Lib.hid (show b7 < n1 ∧ b1 < n1 ∧ b2 < n1 from by have := HLt.out; have := HBb.out.size; omega)
  have HC1b := Lib.hid (fun j (hj : j < 16) => (HBb.out.cell (p := ⟨b1, o1 + j, none⟩) HLt.out.1).trans (HC1.out j hj))
  have HC2b := Lib.hid (fun j (hj : j < 256) => (HBb.out.cell (p := ⟨b2, o2 + j, none⟩) HLt.out.2).trans (HC2.out j hj))
  clear hb7 hat7 hn1 HWD HW HC1 HC2
  go_wp2_with fail
  go_loopg [8, 9] 18 (fun g v8 v9 w' => ∃ i : Nat, v9 = .int .i64 (i : Int) ∧ Hid (i ≤ 16 ∧ 16 < g + i) ∧ Hid ((Kd.int .i64).R tI w' n1 (fun _ => True) v8 (nat ((addK key b).take i))) ∧ Hid (Below n1 Wb w'))
  case atStart => exact ⟨0, rfl, Lib.hid ⟨by omega, by omega⟩, Lib.hid (Kd.R_nil _ _ _ _ _), Lib.hid (Below.refl _ _)⟩
  case round =>
    obtain ⟨i, rfl, HJ, HR, HB⟩ := hrel
    cases gk with
    | zero => have := HJ.out; omega
    | succ g1 =>
      by_cases hi : i < 16
      · have HJ' := Lib.hid (show i < 16 ∧ 16 < (g1 + 1) + i from ⟨hi, HJ.out.2⟩)
        obtain ⟨q, hq⟩ : ∃ y, i / 4 = y := ⟨_, rfl⟩
        obtain ⟨r, hr⟩ : ∃ y, i % 4 = y := ⟨_, rfl⟩
        obtain ⟨d1, d2, d3, d4, q0, r0, q1, r1, q2, r2, z0, z1⟩ := div16 hi hq hr
        obtain ⟨b3, o3, c3, hb3, _, hc3, hk3⟩ := HAt7.out q (by omega)
        have p1 := gwB HLb.out.2.1 (HC1b.out i hi) HB.out
        have p2 := gwB HLb.out.1 hc3 HB.out
        have p3 := gwB (by rw [← Hn1.out]; exact hb3) (hk3 r r0) HB.out
        have hG := addK_get' key b hi
        rw [hq, hr] at hG
        obtain ⟨va, hva⟩ : ∃ y, b.getD i 0 = y := ⟨_, rfl⟩
        obtain ⟨vb, hvb⟩ : ∃ y, (WK key).getD (4 * q + r) 0 = y := ⟨_, rfl⟩
        rw [hva] at p1 hG
        rw [hvb] at p3 hG
        have a8 : va < 256 := by rw [← hva]; exact getD_lt0 (by decide) _ HK.out.2
        have b8 : vb < 256 := by rw [← hvb]; exact getD_lt0 (by decide) _ HWl.out
        have x1 := xor_i64 va vb (by omega) (by omega)
        have y1 : (va : Int) < 256 := by omega
        have hS := nat_snoc (l := addK key b) (j := i) (by rw [show (addK key b).length = 16 from g16_len _]; exact hi)
        rw [hG] at hS
        have HS := Lib.hid hS
        have HL := Lib.hid (show (nat ((addK key b).take i)).length = i from by rw [nat_length, List.length_take, show (addK key b).length = 16 from g16_len _]; omega)
        have HB1 := Lib.hid (show n1 ≤ wr.heap.size from by have := HB.out.size; have := Hn1.out; omega)
        clear hq hr hva hvb a8 b8 hS hG hb3 hc3 hk3 hi HJ q0 r0
        generalize va ^^^ vb = vx at *
        generalize nat ((addK key b).take i) = xs at *
        go_wp2_with fail
        refine Q.wp_region_segsB n1 none [([0, 1, 2, 3, 4, 5, 6, 7, 8, 9, 10, 11, 12, 13, 14, 15], some 16), ([], some 17), ([18], none)] (by kernel_rfl) (by kernel_rfl) (by kernel_rfl) (by kernel_rfl) ?_
        dsimp only [Q.wpSegs, Q.picks, Q.pick]
        repeat (go_big_quiet_step (fail))
        refine wpQuiet_nil ?_
        go_wp2_with fail
        refine ev_keepN ((Below.refl _ _).alloc (Nat.le_refl _) _) HB1.out fun W2 hW2 => ?_
        have HLi := Lib.hid (lit_i (w := wr.drew) hW2)
        have hbw : Below wr.heap.size wr W2 := by rw [hW2]; exact (stay0 wr).alloc (Nat.le_refl _) _
        have HRd := Lib.hid (Kd.R_below HR.out hbw)
        have HBd := Lib.hid (HB.out.trans (hbw.mono HB1.out))
        have HSd := Lib.hid (show n1 ≤ W2.heap.size from Nat.le_trans HB1.out hbw.size)
        clear hW2 hbw
        first | refine wpQuiet_nil ?_ | skip
        go_wp2_with (at_builtin; refine appn (w0 := Wb) .i64 n1 (.tmp 26) (.tmp 42) tSI tI 8 rfl rfl Try.underlying34 info_i (by decide) u8 xs [(vx : Int)] _ 1 1 rfl rfl HRd.out HLi.out HBd.out HSd.out (by have := HL.out; have := HJ'.out; omega) ?_; intro v8 w8 hr8 hb8 hg8; (have HR8 := Lib.hid hr8); (have HB8 := Lib.hid hb8); (have HG8 := Lib.hid hg8); clear hr8 hb8 hg8)
        refine Q.ev_app (gr_own HG8.out (fun k hk => Kd.R_base HRd.out k hk) HSd.out) (Nat.le_refl _) (Q.NewRow.self _ _) ?_
        repeat (go_big_quiet_step (fail))
        refine wpQuiet_nil ?_
        refine NoPanic.normal ?_
        go_wp2_with fail
        go_roundg g1
        case measure => have := HJ'.out; omega
        case rel => exact ⟨i + 1, by go_num, Lib.hid (by have := HJ'.out; omega), Lib.hid (by rw [← HS.out]; exact HR8.out), HB8⟩
      · obtain rfl : i = 16 := by have := HJ.out; omega
        clear hi HJ
        have hr := HR.out
        rw [List.take_of_length_le (by rw [show (addK key b).length = 16 from g16_len _]; exact Nat.le_refl _)] at hr
        obtain ⟨A8, c8, hv8, hc8, hC8⟩ := R_C16 hr (g16_len _)
        subst hv8
        have HC8 := Lib.hid (show (Kd.int .i64).C wr A8 16 (nat (rnds key b 0)) from by rw [rnds]; exact hC8)
        clear hr hc8 hC8 HR
        go_wp2_with fail
        go_loopg [8, 10] 12 (fun g v8 v10 w' => ∃ (rr : Nat) (A8 : Option Addr) (c8 : Nat), v10 = .int .i64 ((rr : Int) + 1) ∧ v8 = .slice A8 16 c8 ∧ Hid (rr ≤ 10 ∧ 10 < g + rr) ∧ Hid ((Kd.int .i64).C w' A8 16 (nat (rnds key b rr))) ∧ Hid (Below n1 Wb w'))
        case atStart => exact ⟨0, A8, c8, rfl, rfl, Lib.hid ⟨by omega, by omega⟩, HC8, HB⟩
        case round =>
          obtain ⟨rr, A9, c9, rfl, rfl, HJ, HC9, HBr⟩ := hrel
          clear HC8 HB
          cases gk with
          | zero => have := HJ.out; omega
          | succ g1 =>
            by_cases hrr : rr < 10
            · have HJr := Lib.hid (show rr < 10 ∧ 10 < (g1 + 1) + rr from ⟨hrr, HJ.out.2⟩)
              have hr1 : (rr : Int) + 1 ≤ 10 := by omega
              have HSl := Lib.hid (rnds_len key b rr)
              have HS8 := Lib.hid (rnds_lt HK.out.1 HK.out.2 rr)
              have HNx := Lib.hid (rnds_succ key b rr)
              generalize rnds key b rr = s at *
              obtain ⟨b9, o9, e9, hb9, hc9⟩ := C_at16 HC9.out HSl.out
              subst e9
              obtain ⟨Wr, hWr⟩ : ∃ W, wr = W := ⟨_, rfl⟩
              have HC9c := Lib.hid (show ∀ j, j < 16 → Wr.cell? ⟨b9, o9 + j, none⟩ = some (.int .i64 (s.getD j 0 : Nat)) from by rw [← hWr]; exact hc9)
              obtain ⟨n2, hn2⟩ : ∃ y, Wr.heap.size = y := ⟨_, rfl⟩
              have Hn2 := Lib.hid hn2
              have HL9 := Lib.hid (show b9 < n2 from by rw [← hn2, ← hWr]; exact hb9)
              have HBr2 := Lib.hid (show Below n1 Wb Wr from by rw [← hWr]; exact HBr.out)
              have Hn12 := Lib.hid (show n1 ≤ n2 from by have := HBr2.out.size; have := Hn1.out; omega)
              rw [hWr]
              clear hWr hn2 hb9 hc9 hrr HJ HC9 HBr
              go_wp2_with fail
              go_loopg [11, 12] 18 (fun g v11 v12 w' => ∃ i : Nat, v12 = .int .i64 (i : Int) ∧ Hid (i ≤ 16 ∧ 16 < g + i) ∧ Hid ((Kd.int .i64).R tI w' n2 (fun _ => True) v11 (nat ((subS s).take i))) ∧ Hid (Below n2 Wr w'))
              case atStart => exact ⟨0, rfl, Lib.hid ⟨by omega, by omega⟩, Lib.hid (Kd.R_nil _ _ _ _ _), Lib.hid (Below.refl _ _)⟩
              case round =>
                obtain ⟨i, rfl, HJ, HR, HB⟩ := hrel
                cases gk with
                | zero => have := HJ.out; omega
                | succ g2 =>
                  by_cases hi : i < 16
                  · have HJ' := Lib.hid (show i < 16 ∧ 16 < (g2 + 1) + i from ⟨hi, HJ.out.2⟩)
                    obtain ⟨q, hq⟩ : ∃ y, i / 4 = y := ⟨_, rfl⟩
                    obtain ⟨r, hr⟩ : ∃ y, i % 4 = y := ⟨_, rfl⟩
                    obtain ⟨d1, d2, d3, d4, q0, r0, q1, r1, q2, r2, z0, z1⟩ := div16 hi hq hr
                    obtain ⟨m, hm⟩ : ∃ y, (q + r) % 4 = y := ⟨_, rfl⟩
                    obtain ⟨e1, e2, m0⟩ := mod4 hm
                    obtain ⟨_, _, _, im1, im2, im3⟩ := ix4 m0 r0
                    have hG := subS_get' s hi
                    rw [hq, hr, hm] at hG
                    have p1 := gwC HL9.out (HC9c.out (4 * m + r) (by omega)) HB.out
                    obtain ⟨va, hva⟩ : ∃ y, s.getD (4 * m + r) 0 = y := ⟨_, rfl⟩
                    rw [hva] at p1 hG
                    have a8 : va < 256 := by rw [← hva]; exact getD_lt0 (by decide) _ HS8.out
                    have p2 := gwC (show b2 < n2 from by have := HLb.out.2.2; have := Hn12.out; omega) (gwC HLb.out.2.2 (HC2b.out va a8) HBr2.out) HB.out
                    rw [show boxT.getD va 0 = bxv va from rfl] at p2
                    have y1 : (va : Int) < 256 := by omega
                    have hS := nat_snoc (l := subS s) (j := i) (by rw [subS_len]; exact hi)
                    rw [hG] at hS
                    have HS := Lib.hid hS
                    have HL := Lib.hid (show (nat ((subS s).take i)).length = i from by rw [nat_length, List.length_take, subS_len]; omega)
                    have HB1 := Lib.hid (show n2 ≤ wr.heap.size from by have := HB.out.size; have := Hn2.out; omega)
                    clear hq hr hm hva a8 hS hG hi HJ q0 r0 m0
                    generalize bxv va = vx at *
                    generalize nat ((subS s).take i) = xs at *
                    go_wp2_with (at_builtin; refine app1 (w0 := Wr) .i64 n2 (.tmp 52) (.tmp 69) tSI tI 8 rfl rfl Try.underlying34 info_i (by decide) u11 xs (vx : Int) rfl rfl HR.out HB.out HB1.out (by have := HL.out; have := HJ'.out; omega) ?_; intro v8 w8 hr8 hb8 _; (have HR8 := Lib.hid hr8); (have HB8 := Lib.hid hb8); clear hr8 hb8)
                    go_roundg g2
                    case measure => have := HJ'.out; omega
                    case rel => exact ⟨i + 1, by go_num, Lib.hid (by have := HJ'.out; omega), Lib.hid (by rw [← HS.out]; exact HR8.out), HB8⟩
                  · obtain rfl : i = 16 := by have := HJ.out; omega
                    clear hi HJ
                    have hr := HR.out
                    rw [List.take_of_length_le (by rw [subS_len]; exact Nat.le_refl _)] at hr
                    obtain ⟨A11, c11, hv11, hc11, hC11⟩ := R_C16 hr (subS_len s)
                    obtain ⟨b11, o11, e11, hb11, hcc11⟩ := C_at16 hC11 (subS_len s)
                    subst e11
                    subst hv11
                    obtain ⟨Wt, hWt⟩ : ∃ W, wr = W := ⟨_, rfl⟩
                    have HCt := Lib.hid (show ∀ j, j < 16 → Wt.cell? ⟨b11, o11 + j, none⟩ = some (.int .i64 ((subS s).getD j 0 : Nat)) from by rw [← hWt]; exact hcc11)
                    obtain ⟨n3, hn3⟩ : ∃ y, Wt.heap.size = y := ⟨_, rfl⟩
                    have Hn3 := Lib.hid hn3
                    have HLt11 := Lib.hid (show b11 < n3 from by rw [← hn3, ← hWt]; exact hb11)
                    have HBt := Lib.hid (show Below n1 Wb Wt from by rw [← hWt]; exact HBr2.out.trans (HB.out.mono Hn12.out))
                    have Hn13 := Lib.hid (show n1 ≤ n3 from by have := HBt.out.size; have := Hn1.out; omega)
                    have HT8 := Lib.hid (subS_lt s)
                    have HG1 := Lib.hid (fun (h : rr + 1 < 10) i (hi : i < 16) => rnd_get1 key h s hi)
                    have HG2 := Lib.hid (fun (h : ¬ rr + 1 < 10) i (hi : i < 16) => rnd_get2 key h s hi)
                    have HRl := Lib.hid (rnd_len key (rr + 1) s)
                    rw [hWt]
                    clear hWt hn3 hb11 hcc11 hr hc11 hC11 HR HB HC9c HL9 HBr2 Hn12 HSl HS8
                    generalize subS s = T at *
                    generalize rnd key (rr + 1) s = U at *
                    go_wp2_with fail
                    go_loopg [13, 14] 18 (fun g v13 v14 w' => ∃ i : Nat, v14 = .int .i64 (i : Int) ∧ Hid (i ≤ 16 ∧ 16 < g + i) ∧ Hid ((Kd.int .i64).R tI w' n3 (fun _ => True) v13 (nat (U.take i))) ∧ Hid (Below n3 Wt w'))
                    case atStart => exact ⟨0, rfl, Lib.hid ⟨by omega, by omega⟩, Lib.hid (Kd.R_nil _ _ _ _ _), Lib.hid (Below.refl _ _)⟩
                    case round =>
                      obtain ⟨i, rfl, HJ, HR, HB⟩ := hrel
                      cases gk with
                      | zero => have := HJ.out; omega
                      | succ g2 =>
                        by_cases hi : i < 16
                        · have HJ' := Lib.hid (show i < 16 ∧ 16 < (g2 + 1) + i from ⟨hi, HJ.out.2⟩)
                          obtain ⟨q, hq⟩ : ∃ y, i / 4 = y := ⟨_, rfl⟩
                          obtain ⟨r, hr⟩ : ∃ y, i % 4 = y := ⟨_, rfl⟩
                          obtain ⟨d1, d2, d3, d4, q0, r0, q1, r1, q2, r2, z0, z1⟩ := div16 hi hq hr
                          obtain ⟨iw1, iw2, iw3, iw4, iw5, iw6⟩ := ixw HJr.out.1 q0
                          have p1 := gwC HLt11.out (HCt.out i hi) HB.out
                          obtain ⟨b3, o3, c3, hb3, _, hc3, hk3⟩ := HAt7.out (4 * (rr + 1) + q) (by omega)
                          have p2 := gwC (show b7 < n3 from by have := HLb.out.1; have := Hn13.out; omega) (gwC HLb.out.1 hc3 HBt.out) HB.out
                          have p3 := gwC (show b3 < n3 from by have := Hn1.out; have := Hn13.out; omega) (gwC (show b3 < n1 from by rw [← Hn1.out]; exact hb3) (hk3 r r0) HBt.out) HB.out
                          obtain ⟨ta, hta⟩ : ∃ y, T.getD i 0 = y := ⟨_, rfl⟩
                          obtain ⟨vb, hvb⟩ : ∃ y, (WK key).getD (4 * (4 * (rr + 1) + q) + r) 0 = y := ⟨_, rfl⟩
                          have g8 : ∀ j, T.getD j 0 < 256 := fun j => getD_lt0 (by decide) j HT8.out
                          have b8 : vb < 256 := by rw [← hvb]; exact getD_lt0 (by decide) _ HWl.out
                          have t8 : ta < 256 := by rw [← hta]; exact g8 _
                          rw [hta] at p1
                          rw [hvb] at p3
                          have hS := nat_snoc (l := U) (j := i) (by rw [HRl.out]; exact hi)
                          have HL := Lib.hid (show (nat (U.take i)).length = i from by rw [nat_length, List.length_take, HRl.out]; omega)
                          have HB1 := Lib.hid (show n3 ≤ wr.heap.size from by have := HB.out.size; have := Hn3.out; omega)
                          have y1 : (ta : Int) < 256 := by omega
                          generalize nat (U.take i) = xs at *
                          by_cases hten : rr + 1 < 10
                          · have hG := HG1.out hten i hi
                            obtain ⟨m1, hm1⟩ : ∃ y, (i + 1) % 4 = y := ⟨_, rfl⟩
                            obtain ⟨m2, hm2⟩ : ∃ y, (i + 2) % 4 = y := ⟨_, rfl⟩
                            obtain ⟨m3, hm3⟩ : ∃ y, (i + 3) % 4 = y := ⟨_, rfl⟩
                            obtain ⟨t1, ht1⟩ : ∃ y, T.getD (4 * q + m1) 0 = y := ⟨_, rfl⟩
                            obtain ⟨t2, ht2⟩ : ∃ y, T.getD (4 * q + m2) 0 = y := ⟨_, rfl⟩
                            obtain ⟨t3, ht3⟩ : ∃ y, T.getD (4 * q + m3) 0 = y := ⟨_, rfl⟩
                            rw [hq, hr, hm1, hm2, hm3, hta, ht1, ht2, ht3, hvb] at hG
                            have u1 : t1 < 256 := by rw [← ht1]; exact g8 _
                            have u2 : t2 < 256 := by rw [← ht2]; exact g8 _
                            have u3 : t3 < 256 := by rw [← ht3]; exact g8 _
                            obtain ⟨e1, e4, n1'⟩ := mod4a hm1
                            obtain ⟨e2, e5, n2'⟩ := mod4b hm2
                            obtain ⟨e3, e6, n3'⟩ := mod4c hm3
                            obtain ⟨it1n0, it1l0, it1t0, it1n1, it1l1, it1t1⟩ := ix4 q0 n1'
                            obtain ⟨it2n0, it2l0, it2t0, it2n1, it2l1, it2t1⟩ := ix4 q0 n2'
                            obtain ⟨it3n0, it3l0, it3t0, it3n1, it3l1, it3t1⟩ := ix4 q0 n3'
                            have x16 : ∀ m, m < 4 → 4 * q + m < 16 := fun m hm => by omega
                            have k1 := gwB (w := wr) HLt11.out (HCt.out (4 * q + m1) (x16 _ n1')) HB.out
                            have k2 := gwB (w := wr) HLt11.out (HCt.out (4 * q + m2) (x16 _ n2')) HB.out
                            have k3 := gwB (w := wr) HLt11.out (HCt.out (4 * q + m3) (x16 _ n3')) HB.out
                            have k0 := gwB (w := wr) HLt11.out (HCt.out i hi) HB.out
                            rw [ht1] at k1
                            rw [ht2] at k2
                            rw [ht3] at k3
                            rw [hta] at k0
                            have HM2 := Lib.hid (fun W => mul_any 2 ta W (by decide) t8)
                            have HM3 := Lib.hid (fun W => mul_any 3 t1 W (by decide) u1)
                            have f2 : rmul 2 ta < 256 := by rw [two_rmul _ t8]; exact dbl_lt t8
                            have f3 : rmul 3 t1 < 256 := by rw [three_rmul _ u1]; exact xor8 (dbl_lt u1) u1
                            generalize rmul 2 ta = xa at *
                            generalize rmul 3 t1 = xb at *
                            have x1 := xor_i64 xa xb (by omega) (by omega)
                            have f4 := xor8 f2 f3
                            generalize xa ^^^ xb = xc at *
                            have x2 := xor_i64 xc t2 (by omega) (by omega)
                            have f5 := xor8 f4 u2
                            generalize xc ^^^ t2 = xd at *
                            have x3 := xor_i64 xd t3 (by omega) (by omega)
                            have f6 := xor8 f5 u3
                            generalize xd ^^^ t3 = xe at *
                            have x4 := xor_i64 xe vb (by omega) (by omega)
                            generalize xe ^^^ vb = vx at *
                            rw [hG] at hS
                            have HS := Lib.hid hS
                            have w1 : (rr : Int) + 1 < 10 := by omega
                            clear hq hr hm1 hm2 hm3 hta ht1 ht2 ht3 hvb g8 b8 t8 u1 u2 u3 f2 f3 f4 f5 f6 hS hG hi HJ q0 r0 hten hb3 hc3 hk3 n1' n2' n3' x16
                            go_wp2_with fail
                            refine Q.wp_region_segsB n3 none [([0, 1, 2, 3, 5, 6, 7, 8, 9, 10, 11, 12, 15, 16, 17, 18, 19, 20, 21, 22, 24, 25, 26, 27, 28, 29, 30, 31], some 4), ([], some 13), ([14, 23, 32, 33], none)] (by kernel_rfl) (by kernel_rfl) (by kernel_rfl) (by kernel_rfl) ?_
                            dsimp only [Q.wpSegs, Q.picks, Q.pick]
                            repeat (go_big_quiet_step (fail))
                            refine wpQuiet_nil ?_
                            clear k0 k1 k2 k3
                            go_wp2_with fail
                            refine (HM2.out _).mono ?_
                            rintro e w7 ⟨rfl, hw7⟩
                            rw [hw7]
                            clear hw7 w7
                            go_wp2_with fail
                            refine Q.ev_keep (Below.refl _ _) HB1.out ?_
                            refine wpQuiet_nil ?_
                            go_wp2_with fail
                            refine (HM3.out _).mono ?_
                            rintro e w7 ⟨rfl, hw7⟩
                            rw [hw7]
                            clear hw7 w7
                            go_wp2_with fail
                            refine Q.ev_keep (Below.refl _ _) HB1.out ?_
                            repeat (go_big_quiet_step (fail))
                            refine wpQuiet_nil ?_
                            refine NoPanic.normal ?_
                            refine exit_at fun Wq hWq => ?_
                            have HRq := Lib.hid (show (Kd.int .i64).R tI Wq n3 (fun _ => True) u13 xs from by rw [hWq]; exact Kd.R_below HR.out (stay0 wr))
                            have HBq := Lib.hid (show Below n3 Wt Wq from by rw [hWq]; exact HB.out.drew)
                            have HSq := Lib.hid (show n3 ≤ Wq.heap.size from by rw [hWq]; exact HB1.out)
                            have hcl : ∀ a, Wq.cell? a = wr.cell? a := fun a => by rw [hWq]; rfl
                            have p2' := (hcl _).trans p2
                            have p3' := (hcl _).trans p3
                            clear hWq hcl p2 p3 p1 e1 e2 e3 e4 e5 e6 it1n0 it1l0 it1t0 it1n1 it1l1 it1t1 it2n0 it2l0 it2t0 it2n1 it2l1 it2t1 it3n0 it3l0 it3t0 it3n1 it3l1 it3t1 x1 x2 x3
                            go_wp2_with (at_builtin; refine app1 (w0 := Wt) .i64 n3 (.tmp 117) (.tmp 132) tSI tI 8 rfl rfl Try.underlying34 info_i (by decide) u13 xs (vx : Int) rfl rfl HRq.out HBq.out HSq.out (by have := HL.out; have := HJ'.out; omega) ?_; intro v8 w8 hr8 hb8 _; (have HR8 := Lib.hid hr8); (have HB8 := Lib.hid hb8); clear hr8 hb8)
                            go_roundg g2
                            case measure => have := HJ'.out; omega
                            case rel => exact ⟨i + 1, by go_num, Lib.hid (by have := HJ'.out; omega), Lib.hid (by rw [← HS.out]; exact HR8.out), HB8⟩
                          · have hG := HG2.out hten i hi
                            rw [hq, hr, hta, hvb] at hG
                            have x4 := xor_i64 ta vb (by omega) (by omega)
                            generalize ta ^^^ vb = vx at *
                            rw [hG] at hS
                            have HS := Lib.hid hS
                            have w1 : ¬ (rr : Int) + 1 < 10 := by omega
                            clear hq hr hta hvb g8 b8 t8 hS hG hi HJ q0 r0 hten hb3 hc3 hk3
                            have HRq := HR
                            have HBq := HB
                            have HSq := HB1
                            go_wp2_with (at_builtin; refine app1 (w0 := Wt) .i64 n3 (.tmp 117) (.tmp 132) tSI tI 8 rfl rfl Try.underlying34 info_i (by decide) u13 xs (vx : Int) rfl rfl HRq.out HBq.out HSq.out (by have := HL.out; have := HJ'.out; omega) ?_; intro v8 w8 hr8 hb8 _; (have HR8 := Lib.hid hr8); (have HB8 := Lib.hid hb8); clear hr8 hb8)
                            go_roundg g2
                            case measure => have := HJ'.out; omega
                            case rel => exact ⟨i + 1, by go_num, Lib.hid (by have := HJ'.out; omega), Lib.hid (by rw [← HS.out]; exact HR8.out), HB8⟩
                        · obtain rfl : i = 16 := by have := HJ.out; omega
                          clear hi HJ
                          have hr := HR.out
                          rw [List.take_of_length_le (by rw [HRl.out]; exact Nat.le_refl _)] at hr
                          obtain ⟨A13, c13, hv13, hc13, hC13⟩ := R_C16 hr HRl.out
                          subst hv13
                          have HC13 := Lib.hid hC13
                          clear hr hc13 hC13 HR
                          go_wp2_with fail
                          go_roundg g1
                          case measure => have := HJr.out; omega
                          case rel => exact ⟨rr + 1, A13, c13, by go_num, rfl, Lib.hid (by have := HJr.out; omega), Lib.hid (by rw [HNx.out]; exact HC13.out), Lib.hid (HBt.out.trans (HB.out.mono Hn13.out))⟩
            · obtain rfl : rr = 10 := by have := HJ.out; omega
              clear hrr HJ
              have HTl := Lib.hid (turnP_len' key b)
              have HT8 := Lib.hid (show ∀ x ∈ turnP key b, x < 256 from rnds_lt HK.out.1 HK.out.2 10)
              have HC9' := Lib.hid (show (Kd.int .i64).C wr A9 16 (nat (turnP key b)) from HC9.out)
              clear HC9
              obtain ⟨T, hT⟩ : ∃ T, turnP key b = T := ⟨_, rfl⟩
              have HTe := Lib.hid hT
              rw [hT] at HTl HT8 HC9'
              clear hT
              obtain ⟨b9, o9, e9, hb9, hc9⟩ := C_at16 HC9'.out HTl.out
              subst e9
              obtain ⟨Wr, hWr⟩ : ∃ W, wr = W := ⟨_, rfl⟩
              have HC9c := Lib.hid (show ∀ j, j < 16 → Wr.cell? ⟨b9, o9 + j, none⟩ = some (.int .i64 (T.getD j 0 : Nat)) from by rw [← hWr]; exact hc9)
              obtain ⟨n2, hn2⟩ : ∃ y, Wr.heap.size = y := ⟨_, rfl⟩
              have Hn2 := Lib.hid hn2
              have HL9 := Lib.hid (show b9 < n2 from by rw [← hn2, ← hWr]; exact hb9)
              have HBr2 := Lib.hid (show Below n1 Wb Wr from by rw [← hWr]; exact HBr.out)
              have HB0 := Lib.hid (show Below w.heap.size w Wr from HBb.out.trans (HBr2.out.mono (by have := HBb.out.size; have := Hn1.out; omega)))
              have Hn02 := Lib.hid (show w.heap.size ≤ n2 from by have := HB0.out.size; have := Hn2.out; omega)
              rw [hWr]
              clear hWr hn2 hb9 hc9 HC9' HBr
              go_wp2_with fail
              go_loopg [17, 18] 18 (fun g v17 v18 w' => ∃ i : Nat, v18 = .int .i64 (i : Int) ∧ Hid (i ≤ 16 ∧ 16 < g + i) ∧ Hid ((Kd.int .u8).R 5 w' n2 (fun _ => True) v17 (nat (T.take i))) ∧ Hid (Below n2 Wr w'))
              case atStart => exact ⟨0, rfl, Lib.hid ⟨by omega, by omega⟩, Lib.hid (Kd.R_nil _ _ _ _ _), Lib.hid (Below.refl _ _)⟩
              case round =>
                obtain ⟨i, rfl, HJ, HR, HB⟩ := hrel
                cases gk with
                | zero => have := HJ.out; omega
                | succ g2 =>
                  by_cases hi : i < 16
                  · have HJ' := Lib.hid (show i < 16 ∧ 16 < (g2 + 1) + i from ⟨hi, HJ.out.2⟩)
                    have z0 : (i : Int) < 16 := by omega
                    have z1 : (0 : Int) ≤ (i : Int) := by omega
                    have p1 := gwC HL9.out (HC9c.out i hi) HB.out
                    obtain ⟨va, hva⟩ : ∃ y, T.getD i 0 = y := ⟨_, rfl⟩
                    rw [hva] at p1
                    have a8 : va < 256 := by rw [← hva]; exact getD_lt0 (by decide) _ HT8.out
                    have y1 : (va : Int) < 256 := by omega
                    have y2 : (va : Int) % 256 = (va : Int) := by omega
                    have y3 : IntKind.u8.wrap (va : Int) = (va : Int) := wraps_u8 _ (by omega) (by omega)
                    have hS := nat_snoc (l := T) (j := i) (by rw [HTl.out]; exact hi)
                    rw [hva] at hS
                    have HS := Lib.hid hS
                    have HL := Lib.hid (show (nat (T.take i)).length = i from by rw [nat_length, List.length_take, HTl.out]; omega)
                    have HB1 := Lib.hid (show n2 ≤ wr.heap.size from by have := HB.out.size; have := Hn2.out; omega)
                    clear hva a8 hS hi HJ
                    generalize nat (T.take i) = xs at *
                    go_wp2_with (at_builtin; refine app1 (w0 := Wr) .u8 n2 (.tmp 139) (.tmp 145) 41 5 1 rfl rfl Try.underlying41 info_u8 (by decide) u17 xs (va : Int) rfl rfl HR.out HB.out HB1.out (by have := HL.out; have := HJ'.out; omega) ?_; intro v8 w8 hr8 hb8 _; (have HR8 := Lib.hid hr8); (have HB8 := Lib.hid hb8); clear hr8 hb8)
                    go_roundg g2
                    case measure => have := HJ'.out; omega
                    case rel => exact ⟨i + 1, by go_num, Lib.hid (by have := HJ'.out; omega), Lib.hid (by rw [← HS.out]; exact HR8.out), HB8⟩
                  · obtain rfl : i = 16 := by have := HJ.out; omega
                    clear hi HJ
                    have hr := HR.out
                    rw [List.take_of_length_le (by rw [HTl.out]; exact Nat.le_refl _)] at hr
                    obtain ⟨A17, c17, hv17, hc17, hC17⟩ := R_C16 hr HTl.out
                    subst hv17
                    have HC17 := Lib.hid hC17
                    have Hc17 := Lib.hid hc17
                    clear hr hc17 hC17 HR
                    go_wp2_with fail
                    go_ret
                    exact ⟨_, _, rfl, Hc17.out, by rw [HTe.out]; exact HC17.out, HB0.out.trans (HB.out.mono Hn02.out)⟩
end Go.Proofs.Ytblnclooobggnaa.A

namespace Go.Proofs.Ytblnclooobggnaa.Q
open Go.RowKit Go.Proofs.Ytblnclooobggnaa.L Go.Proofs.YtblnclooobggnaaW.PrintWords

section
variable {P : Program} {ops : Array Oper} {Q : Exit → Act → World → Prop} {md : Region.Mode} {S : World → Prop} {k m : Nat}
def wpAnyG (P : Program) (md : Region.Mode) (ops : Array Oper) (Q : Exit → Act → World → Prop) (S : World → Prop) (k m : Nat) : Nat → Array Bool → Act → World → Prop
  | 0, listed, a, w => Region.ready md ops listed = [k] ∧ wpOp P ops Q k (fun a' w' => wpAny P md ops Q m (listed.setIfInBounds k true) a' w') a w
  | fuel + 1, listed, a, w => Region.ready md ops listed ≠ [] ∧ ∀ i ∈ Region.ready md ops listed, wpOp P ops Q i (fun a' w' => S w' ∧ wpAnyG P md ops Q S k m fuel (listed.setIfInBounds i true) a' w') a w
theorem wpAny_of_G : ∀ (fuel : Nat) (listed : Array Bool) (a : Act) (w : World), wpAnyG P md ops Q S k m fuel listed a w → wpAny P md ops Q (fuel + 1 + m) listed a w
  | 0, listed, a, w, h => by
      rw [show 0 + 1 + m = m + 1 from by omega]
      exact ⟨fun h0 => (by rw [h.1] at h0; cases h0), fun i hi => by
        rw [h.1] at hi
        obtain rfl : i = k := by simpa using hi
        exact h.2⟩
  | fuel + 1, listed, a, w, h => by
    rw [show fuel + 1 + 1 + m = (fuel + 1 + m) + 1 from by omega]
    exact ⟨fun h0 => absurd h0 h.1, fun i hi => wpOp_mono (fun a' w' h' => wpAny_of_G fuel _ a' w' h'.2) (h.2 i hi)⟩
theorem anyG_first {i f : Nat} {oi : Oper} {v : Value} (hi : ops[i]? = some oi) (hsel : ∀ (j : Nat) (o : Oper) cs b, ops[j]? = some o → o.op ≠ .select cs b)
    (hQ : ∀ c a w, Q (.panic c) (a.put oi.dst v) w → Q (.panic c) a w) (hkw : wt md ops f k i = true) :
    ∀ (fuel : Nat) (listed : Array Bool) (a : Act) (w : World), Cl md ops listed →
      (∀ j oj, ops[j]? = some oj → j ≠ i → listed.getD j true = false → (∀ e ∈ oj.after, Region.binds md e = true → e.on ≠ i) → oi.apart ops oj = true) →
      i ∈ Region.ready md ops listed → YieldsIf P ops S oi v a → S w →
      wpAnyG P md ops Q S k m fuel (listed.setIfInBounds i true) (a.put oi.dst v) w → wpAnyG P md ops Q S k m (fuel + 1) listed a w := by
  intro fuel
  induction fuel with
  | zero =>
    intro listed a w hc _ hr hy hS H
    refine ⟨fun h => (by rw [h] at hr; cases hr), fun j hj => ?_⟩
    by_cases hji : j = i
    · subst hji; exact hy.wpOp hi hS ⟨hS, H⟩
    · have h1 := ready_mono hj hji
      rw [H.1] at h1
      obtain rfl : j = k := by simpa using h1
      obtain ⟨_, oj, hoj, hall⟩ := mem_ready.1 hj
      have h2 := wt_listed hc f j (fun o ho e he hb => by
        have : o = oj := Option.some.inj (ho.symm.trans hoj)
        subst this
        exact hall e he hb) hkw
      have h3 := getD_both (mem_ready.1 hr).1
      rw [h2] at h3
      cases h3
  | succ fuel ih =>
    intro listed a w hc hfree hr hy hS H
    refine ⟨fun h => (by rw [h] at hr; cases hr), fun j hj => ?_⟩
    by_cases hji : j = i
    · subst hji; exact hy.wpOp hi hS ⟨hS, H⟩
    · have h1 := H.2 j (ready_mono hj hji)
      obtain ⟨hjun, oj, hoj, hall⟩ := mem_ready.1 hj
      have hun := getD_both (mem_ready.1 hr).1
      have hnot : ∀ e ∈ oj.after, Region.binds md e = true → e.on ≠ i := fun e he hb heq => by
        have h1 := hall e he hb
        rw [heq, hun] at h1
        cases h1
      have h2 := wpOp_putIf hoj (hfree j oj hoj hji hjun hnot) (fun cs b => hsel i oi cs b hi) (fun cs b => hsel j oj cs b hoj) hQ hy h1
      have hfree' : ∀ m ok, ops[m]? = some ok → m ≠ i → (listed.setIfInBounds j true).getD m true = false → (∀ e ∈ ok.after, Region.binds md e = true → e.on ≠ i) → oi.apart ops ok = true := fun m ok hm hmi hun' hno => by
        refine hfree m ok hm hmi ?_ hno
        by_cases hjm : j = m
        · subst hjm; exact hjun
        · rw [getD_set_ne true hjm] at hun'; exact hun'
      refine wpOp_mono (fun a' w' h3 => ⟨h3.2.1, ih (listed.setIfInBounds j true) a' w' (hc.set hj) hfree' (ready_mono hr (Ne.symm hji)) h3.1 h3.2.1 ?_⟩) h2
      rw [Array.setIfInBounds_comm _ _ hji]
      exact h3.2.2
theorem heldG_mono {S S' : World → Prop} (h : ∀ w, S' w → S w) : ∀ (fuel : Nat) (b : Array Bool) (a : Act) (w : World), wpAnyG P md ops Q S' k m fuel b a w → wpAnyG P md ops Q S k m fuel b a w
  | 0, _, _, _, hh => hh
  | fuel + 1, _, _, _, hh => ⟨hh.1, fun i hi => wpOp_mono (fun a' w' h' => ⟨h _ h'.1, heldG_mono h fuel _ a' w' h'.2⟩) (hh.2 i hi)⟩
end

def wpSegsG (P : Program) (l : List Oper) (Q : Exit → Act → World → Prop) (js : List Nat) (k : Nat) (ks : List Nat) : List (List Nat × Option Nat) → Nat → Option Nat → Act → World → Prop
  | [], B, row, a, w => wpQuiet P l.toArray (fun w' => ∃ n : GW w B row, w' = n.w) (fun a' => wpList P l.toArray Q (pick l k :: picks l ks) a' w) (picks l js) a
  | (is, none) :: r, B, row, a, w => wpQuiet P l.toArray (fun w' => ∃ n : GW w B row, w' = n.w) (fun a' => wpSegsG P l Q js k ks r B row a' w) (picks l is) a
  | (is, some j) :: r, B, row, a, w => wpQuiet P l.toArray (fun w' => ∃ n : GW w B row, w' = n.w) (fun a' => wpList P l.toArray (EvQ (Gr B row w) (Goes (wpSegsG P l Q js k ks r) B row) Q) [pick l j] a' w) (picks l is) a
def chB (md : Region.Mode) (l : List Oper) : List Nat → Array Bool → Bool
  | [], b => Region.ready md l.toArray b == []
  | i :: r, b => decide (i < l.length) && (Region.ready md l.toArray b == [i]) && chB md l r (b.setIfInBounds i true)
def segBG (md : Region.Mode) (l : List Oper) (js : List Nat) (k : Nat) (ks : List Nat) : List (List Nat × Option Nat) → Array Bool → Bool
  | [], b => match quietBF md l k js b with
    | some b' => decide (k < l.length) && (Region.ready md l.toArray b' == [k]) && chB md l ks (b'.setIfInBounds k true)
    | none => false
  | (is, none) :: r, b => match quietBF md l k is b with
    | some b' => segBG md l js k ks r b'
    | none => false
  | (is, some j) :: r, b => match quietBF md l k is b with
    | some b' => decide (j < l.length) && (Region.ready md l.toArray b' == [j]) && segBG md l js k ks r (b'.setIfInBounds j true)
    | none => false

section
variable {P : Program} {l : List Oper} {Q : Exit → Act → World → Prop} {md : Region.Mode} {k m : Nat}
theorem quiet_soundG (hs : Region.noSelect l.toArray = true) (hQ : ∀ c a d v w, Q (.panic c) (a.put d v) w → Q (.panic c) a w) {w : World} {B : Nat} {row : Option Nat} {K : Act → Prop} {n : Nat} :
    ∀ (is : List Nat) (b b' : Array Bool) (a : Act), Cl md l.toArray b → quietBF md l k is b = some b' → (∀ a', Cl md l.toArray b' → K a' → wpAnyG P md l.toArray Q (InG w B row) k m n b' a' w) → wpQuiet P l.toArray (InG w B row) K (picks l is) a → wpAnyG P md l.toArray Q (InG w B row) k m (is.length + n) b a w
  | [], b, b', a, hc, hb, hk, h => by
    injection hb with hb
    subst hb
    rw [List.length_nil, Nat.zero_add]
    exact hk a hc h
  | i :: r, b, b', a, hcl, hb, hk, h => by
    unfold quietBF at hb
    split at hb
    · rename_i hc
      simp only [Bool.and_eq_true, decide_eq_true_eq] at hc
      obtain ⟨⟨⟨⟨h1, h2⟩, h3⟩, h4⟩, h5⟩ := hc
      have hi : l.toArray[i]? = some (pick l i) := by simpa using pick_get h1
      have h4' : i ∈ Region.ready md l.toArray b := by simpa using h4
      rw [List.length_cons, show r.length + 1 + n = (r.length + n) + 1 from by omega]
      have h' : if Region.wanted (pick l i) (yielded l.toArray a.tmps) then (pick l i).quiet P a (InG w B row) (wpQuiet P l.toArray (InG w B row) K (picks l r)) else wpQuiet P l.toArray (InG w B row) K (picks l r) (a.put (pick l i).dst undef) := h
      have hcl' := hcl.set h4'
      by_cases hw : Region.wanted (pick l i) (yielded l.toArray a.tmps) = true
      · rw [if_pos hw] at h'
        obtain ⟨v, hv, hn⟩ := h'
        exact anyG_first hi (Region.noSelect_spec hs) (fun c a w => hQ c a _ _ w) h5 _ _ _ _ hcl (Region.free_spec hi h3) h4' (.inl ⟨hw, fun w' hw' => run_of_quietAt h2 (hv w' hw')⟩) (InG.self w B row) (quiet_soundG hs hQ r _ b' _ hcl' hb hk hn)
      · rw [if_neg hw] at h'
        exact anyG_first hi (Region.noSelect_spec hs) (fun c a w => hQ c a _ _ w) h5 _ _ _ _ hcl (Region.free_spec hi h3) h4' (.inr ⟨by simpa using hw, rfl⟩) (InG.self w B row) (quiet_soundG hs hQ r _ b' _ hcl' hb hk h')
    · cases hb
theorem chain_sound : ∀ (ks : List Nat) (b : Array Bool) (a : Act) (w : World), chB md l ks b = true → wpList P l.toArray Q (picks l ks) a w → wpAny P md l.toArray Q ks.length b a w
  | [], b, a, w, hb, h => ⟨by simpa [chB] using hb, h⟩
  | i :: r, b, a, w, hb, h => by
    unfold chB at hb
    simp only [Bool.and_eq_true, decide_eq_true_eq, beq_iff_eq] at hb
    obtain ⟨⟨h1, h2⟩, h3⟩ := hb
    have hk : l.toArray[i]? = some (pick l i) := by simpa using pick_get h1
    refine ⟨fun h0 => (by rw [h2] at h0; cases h0), fun j hj => ?_⟩
    rw [h2] at hj
    obtain rfl : j = i := by simpa using hj
    refine wpOp_mono (K := fun a'' w'' => wpList P l.toArray Q (picks l r) a'' w'') (fun a'' w'' h' => chain_sound r _ a'' w'' h3 h') ?_
    unfold wpOp
    simp only [hk]
    simp only [picks, wpList] at h
    by_cases hw : Region.wanted (pick l j) (yielded l.toArray a.tmps) = true
    · rw [if_pos hw] at h ⊢
      exact h
    · rw [if_neg hw] at h ⊢
      exact h
theorem segs_soundG (hs : Region.noSelect l.toArray = true) (hQ : ∀ c a d v w, Q (.panic c) (a.put d v) w → Q (.panic c) a w) (js ks : List Nat) :
    ∀ (segs : List (List Nat × Option Nat)) (B : Nat) (row : Option Nat) (b : Array Bool) (a : Act) (w : World), Cl md l.toArray b → segBG md l js k ks segs b = true → wpSegsG P l Q js k ks segs B row a w → wpAnyG P md l.toArray Q (InG w B row) k ks.length (segN segs + js.length) b a w
  | [], B, row, b, a, w, hcl, hb, h => by
    unfold segBG at hb
    split at hb
    · rename_i b' hq
      simp only [Bool.and_eq_true, decide_eq_true_eq, beq_iff_eq] at hb
      obtain ⟨⟨h1, h2⟩, h3⟩ := hb
      have hk : l.toArray[k]? = some (pick l k) := by simpa using pick_get h1
      rw [show segN [] + js.length = js.length + 0 from by simp [segN]]
      refine quiet_soundG (n := 0) hs hQ js b b' a hcl hq (fun a' _ ha' => ⟨h2, ?_⟩) h
      refine wpOp_mono (K := fun a'' w'' => wpList P l.toArray Q (picks l ks) a'' w'') (fun a'' w'' h' => chain_sound ks _ a'' w'' h3 h') ?_
      unfold wpOp
      simp only [hk]
      simp only [wpList] at ha'
      by_cases hw : Region.wanted (pick l k) (yielded l.toArray a'.tmps) = true
      · rw [if_pos hw] at ha' ⊢
        exact ha'
      · rw [if_neg hw] at ha' ⊢
        exact ha'
    · cases hb
  | (is, none) :: r, B, row, b, a, w, hcl, hb, h => by
    unfold segBG at hb
    split at hb
    · rename_i b' hq
      rw [show segN ((is, none) :: r) + js.length = is.length + (segN r + js.length) from by simp only [segN]; omega]
      exact quiet_soundG hs hQ is b b' a hcl hq (fun a' hcl' ha' => segs_soundG hs hQ js ks r B row b' a' w hcl' hb ha') h
    · cases hb
  | (is, some j) :: r, B, row, b, a, w, hcl, hb, h => by
    unfold segBG at hb
    split at hb
    · rename_i b' hq
      simp only [Bool.and_eq_true, decide_eq_true_eq, beq_iff_eq] at hb
      obtain ⟨⟨h1, h2⟩, h3⟩ := hb
      rw [show segN ((is, some j) :: r) + js.length = is.length + ((segN r + js.length) + 1) from by simp only [segN]; omega]
      refine quiet_soundG (n := (segN r + js.length) + 1) hs hQ is b b' a hcl hq (fun a' hcl' ha' => ?_) h
      refine ⟨by rw [h2]; simp, fun i hi => ?_⟩
      have hir := hi
      rw [h2] at hi
      obtain rfl : i = j := by simpa using hi
      have hi' : l.toArray[i]? = some (pick l i) := by simpa using pick_get h1
      have key : ∀ a'' w'', (Gr B row w w'' ∧ ∃ B' row', B ≤ B' ∧ NewRow B row row' ∧ wpSegsG P l Q js k ks r B' row' a'' w'') → InG w B row w'' ∧ wpAnyG P md l.toArray Q (InG w B row) k ks.length (segN r + js.length) (b'.setIfInBounds i true) a'' w'' := fun a'' w'' hh => by
        obtain ⟨hg, B', row', hBB, hr, hh⟩ := hh
        exact ⟨⟨⟨w'', hg⟩, rfl⟩, heldG_mono (fun _ hw' => InG.mono hg hBB hr hw') _ _ _ _ (segs_soundG hs hQ js ks r B' row' _ a'' w'' (hcl'.set hir) h3 hh)⟩
      unfold wpOp
      simp only [hi']
      simp only [wpList] at ha'
      by_cases hw : Region.wanted (pick l i) (yielded l.toArray a'.tmps) = true
      · rw [if_pos hw] at ha' ⊢
        rcases ha' with ha' | ⟨h4, h5⟩
        · exact .inl (ev_wp (fun a'' w'' hh => key a'' w'' hh) ha')
        · exact .inr ⟨h4, ev_lets h5⟩
      · rw [if_neg hw] at ha' ⊢
        exact key _ _ ha'
    · cases hb

/-- A REGION THAT DRAWS ITS ORDER, by its stretches; number k, then those of ks, one by one, come last, behind 'js'. -/
theorem wp_region_segsG {id : Nat} {a : Act} {w : World} (row : Option Nat) (segs : List (List Nat × Option Nat)) (js : List Nat) (k : Nat) (ks : List Nat) (hm : P.follows .mixedOrders = true) (hs : Region.noSelect l.toArray = true)
    (hb : segBG .any l js k ks segs (Array.replicate l.length false) = true) (hn : segN segs + js.length + 1 + ks.length = l.length)
    (h : wpSegsG P l (NoPanic Q) js k ks segs w.heap.size row a w.drew) : (Code.region id l.toArray true).wp P Q a w := by
  refine wp_region_noPanic (wp_region_any hm ?_)
  have hc : Cl .any l.toArray (Array.replicate l.length false) := fun j oj _ hl => by rw [getD_replicate_false] at hl; cases hl
  have := wpAny_of_G _ _ _ _ (segs_soundG hs (Q := NoPanic Q) (fun _ _ _ _ _ h => h) js ks segs w.heap.size row _ a w.drew hc hb h)
  rw [hn] at this
  simpa using this
end
end Go.Proofs.Ytblnclooobggnaa.Q

namespace Go.Proofs.Ytblnclooobggnaa.H

def val : List Nat → Nat
  | [] => 0
  | x :: l => x + 4096 * val l
def digs : Nat → Nat → List Nat
  | 0, _ => []
  | n + 1, v => v % 4096 :: digs n (v / 4096)
theorem digs_length : ∀ (n v : Nat), (digs n v).length = n
  | 0, _ => rfl
  | n + 1, v => by rw [digs, List.length_cons, digs_length n]
theorem digs_lt : ∀ (n v : Nat), ∀ x ∈ digs n v, x < 4096
  | 0, _, x, h => by cases h
  | n + 1, v, x, h => by
    rw [digs, List.mem_cons] at h
    rcases h with rfl | h
    · omega
    · exact digs_lt n _ x h
theorem digs_get : ∀ (n v i : Nat), i < n → (digs n v).getD i 0 = v / 4096 ^ i % 4096
  | 0, _, _, h => by omega
  | n + 1, v, 0, _ => by simp [digs]
  | n + 1, v, i + 1, h => by
    rw [digs, List.getD_cons_succ, digs_get n _ i (by omega), Nat.div_div_eq_div_mul, Nat.pow_succ, Nat.mul_comm 4096]
theorem digs_snoc : ∀ (n v : Nat), digs (n + 1) v = digs n v ++ [v / 4096 ^ n % 4096]
  | 0, v => by simp [digs]
  | n + 1, v => by
    rw [digs, digs_snoc n (v / 4096), digs, List.cons_append, Nat.div_div_eq_div_mul, Nat.pow_succ, Nat.mul_comm 4096]
theorem val_digs : ∀ (n v : Nat), v < 4096 ^ n → val (digs n v) = v
  | 0, v, h => by simp at h; subst h; rfl
  | n + 1, v, h => by
    rw [digs, val, val_digs n (v / 4096) (by rw [Nat.pow_succ] at h; exact Nat.div_lt_of_lt_mul (by rw [Nat.mul_comm]; exact h))]
    omega
theorem digs_zero {n v : Nat} (h : v < 4096 ^ n) : digs (n + 1) v = digs n v ++ [0] := by
  rw [digs_snoc, Nat.div_eq_of_lt h]
theorem val_lt : ∀ (l : List Nat), (∀ x ∈ l, x < 4096) → val l < 4096 ^ l.length
  | [], _ => by simp [val]
  | x :: l, h => by
    have h1 := h x (by simp)
    have h2 := val_lt l fun y hy => h y (by simp [hy])
    rw [val, List.length_cons, Nat.pow_succ]
    omega
theorem val_drop (l : List Nat) (i : Nat) (h : i < l.length) : val (l.drop i) = l.getD i 0 + 4096 * val (l.drop (i + 1)) := by
  rw [List.drop_eq_getElem_cons h, val]
  simp [List.getD_eq_getElem?_getD, List.getElem?_eq_getElem h]
theorem val_set : ∀ (l : List Nat) (j d : Nat), j < l.length → val (l.set j (l.getD j 0 + d)) = val l + d * 4096 ^ j
  | [], _, _, h => by simp at h
  | x :: l, 0, d, _ => by simp [val]; omega
  | x :: l, j + 1, d, h => by
    simp only [List.set_cons_succ, List.getD_cons_succ, val]
    rw [val_set l j d (by simpa using h), Nat.pow_succ, Nat.mul_add]
    have : 4096 * (d * 4096 ^ j) = d * (4096 ^ j * 4096) := by ac_rfl
    omega
theorem val_take (l : List Nat) (i : Nat) (h : i < l.length) : val (l.take (i + 1)) = val (l.take i) + l.getD i 0 * 4096 ^ i := by
  induction l generalizing i with
  | nil => simp at h
  | cons x l ih =>
    cases i with
    | zero => simp [val]
    | succ i =>
      simp only [List.take_succ_cons, val, List.getD_cons_succ]
      rw [ih i (by simpa using h), Nat.pow_succ, Nat.mul_add]
      have : 4096 * (l.getD i 0 * 4096 ^ i) = l.getD i 0 * (4096 ^ i * 4096) := by ac_rfl
      omega
theorem val_zero (n : Nat) : val (List.replicate n 0) = 0 := by
  induction n with
  | zero => rfl
  | succ n ih => rw [List.replicate_succ, val, ih]

/-- what is carried: the head of a round -/
structure Car (l : List Nat) (i c : Nat) : Prop where
  eq : c + val (l.drop i) = val l / 4096 ^ i
  lt : c < 2 ^ 51
theorem Car.start (l : List Nat) : Car l 0 0 := ⟨by simp, by decide⟩
theorem Car.digit {l : List Nat} {i c : Nat} (h : Car l i c) (hi : i < l.length) : (c + l.getD i 0) % 4096 = val l / 4096 ^ i % 4096 := by
  have := h.eq
  rw [val_drop l i hi] at this
  omega
theorem Car.step {l : List Nat} {i c : Nat} (h : Car l i c) (hi : i < l.length) (hb : l.getD i 0 < 2 ^ 50) : Car l (i + 1) ((c + l.getD i 0) / 4096) := by
  have h1 := h.eq
  have h2 := h.lt
  rw [val_drop l i hi] at h1
  refine ⟨?_, by omega⟩
  rw [Nat.pow_succ, ← Nat.div_div_eq_div_mul, ← h1]
  omega
theorem Car.stop {l : List Nat} {c : Nat} (h : Car l l.length c) (hv : val l < 4096 ^ l.length) : c = 0 := by
  have h1 := h.eq
  rw [Nat.div_eq_of_lt hv] at h1
  omega

/-- what a product's rows are at a round -/
structure Mul (a b : List Nat) (i k : Nat) (o : List Nat) : Prop where
  len : o.length = a.length + b.length
  eq : val o = val (a.take i) * val b + a.getD i 0 * 4096 ^ i * val (b.take k)
  lt : ∀ j, o.getD j 0 ≤ 16777216 * (i * b.length + k)
theorem Mul.start (a b : List Nat) : Mul a b 0 0 (List.replicate (a.length + b.length) 0) :=
  ⟨by simp, by simp [val_zero, val], fun j => by
    rw [List.getD_eq_getElem?_getD, List.getElem?_replicate]
    split <;> simp⟩
theorem getD_set' (l : List Nat) (i j x : Nat) : (l.set i x).getD j 0 = if i = j ∧ i < l.length then x else l.getD j 0 := by
  simp only [List.getD_eq_getElem?_getD, List.getElem?_set]
  by_cases h : i = j
  · subst h
    by_cases h2 : i < l.length <;> simp [h2]
  · simp [h]
theorem Mul.step {a b : List Nat} {i k : Nat} {o : List Nat} (h : Mul a b i k o) (ha : ∀ x ∈ a, x < 4096) (hb : ∀ x ∈ b, x < 4096) (hi : i < a.length) (hk : k < b.length) :
    Mul a b i (k + 1) (o.set (i + k) (o.getD (i + k) 0 + a.getD i 0 * b.getD k 0)) := by
  have gx : ∀ (l : List Nat) (n : Nat), n < l.length → (∀ x ∈ l, x < 4096) → l.getD n 0 < 4096 := fun l n hn hl => by
    rw [List.getD_eq_getElem?_getD, List.getElem?_eq_getElem hn]
    exact hl _ (List.getElem_mem hn)
  have h1 := gx a i hi ha
  have h2 := gx b k hk hb
  have h3 : a.getD i 0 * b.getD k 0 ≤ 16769025 := Nat.mul_le_mul (show _ ≤ 4095 by omega) (show _ ≤ 4095 by omega)
  refine ⟨by rw [List.length_set, h.len], ?_, fun j => ?_⟩
  · rw [val_set _ _ _ (by rw [h.len]; omega), h.eq, val_take b k hk, Nat.mul_add, Nat.pow_add]
    have : a.getD i 0 * b.getD k 0 * (4096 ^ i * 4096 ^ k) = a.getD i 0 * 4096 ^ i * (b.getD k 0 * 4096 ^ k) := by ac_rfl
    omega
  · rw [getD_set']
    have h4 := h.lt j
    have h5 := h.lt (i + k)
    have e : 16777216 * (i * b.length + (k + 1)) = 16777216 * (i * b.length + k) + 16777216 := by rw [← Nat.add_assoc, Nat.mul_succ]
    rw [e]
    obtain ⟨M, hM⟩ : ∃ M, 16777216 * (i * b.length + k) = M := ⟨_, rfl⟩
    obtain ⟨N, hN⟩ : ∃ N, a.getD i 0 * b.getD k 0 = N := ⟨_, rfl⟩
    rw [hM] at h4 h5 ⊢
    rw [hN] at h3 ⊢
    clear hM hN e
    split <;> omega
theorem Mul.next {a b : List Nat} {i : Nat} {o : List Nat} (h : Mul a b i b.length o) (hi : i < a.length) : Mul a b (i + 1) 0 o :=
  ⟨h.len, by rw [h.eq, List.take_length, val_take a i hi, Nat.add_mul]; simp [val], fun j => by have := h.lt j; rw [show (i + 1) * b.length + 0 = i * b.length + b.length from by rw [Nat.add_zero, Nat.succ_mul]]; exact this⟩
theorem Mul.all {a b : List Nat} {o : List Nat} (h : Mul a b a.length 0 o) : val o = val a * val b := by
  rw [h.eq, List.take_length]; simp [val]

/-- what is compared from above -/
structure Cmp (N a b i : Nat) : Prop where
  eq : a / 4096 ^ i = b / 4096 ^ i
theorem Cmp.start {N a b : Nat} (ha : a < 4096 ^ N) (hb : b < 4096 ^ N) : Cmp N a b N := ⟨by rw [Nat.div_eq_of_lt ha, Nat.div_eq_of_lt hb]⟩
theorem Cmp.same {N a b i : Nat} (h : Cmp N a b (i + 1)) (hd : a / 4096 ^ i % 4096 = b / 4096 ^ i % 4096) : Cmp N a b i := by
  have h1 := h.eq
  rw [Nat.pow_succ, ← Nat.div_div_eq_div_mul, ← Nat.div_div_eq_div_mul] at h1
  exact ⟨by omega⟩
theorem Cmp.less {N a b i : Nat} (h : Cmp N a b (i + 1)) (hd : a / 4096 ^ i % 4096 ≠ b / 4096 ^ i % 4096) : decide (a / 4096 ^ i % 4096 < b / 4096 ^ i % 4096) = decide (a ≤ b) := by
  have h1 := h.eq
  rw [Nat.pow_succ, ← Nat.div_div_eq_div_mul, ← Nat.div_div_eq_div_mul] at h1
  by_cases hl : a / 4096 ^ i % 4096 < b / 4096 ^ i % 4096
  · have h2 : a / 4096 ^ i < b / 4096 ^ i := by omega
    have h3 : a < b := Nat.lt_of_div_lt_div h2
    rw [decide_eq_true hl, decide_eq_true (by omega)]
  · have h2 : b / 4096 ^ i < a / 4096 ^ i := by omega
    have h3 : b < a := Nat.lt_of_div_lt_div h2
    rw [decide_eq_false hl, decide_eq_false (by omega)]
theorem Cmp.stop {N a b : Nat} (h : Cmp N a b 0) : decide (a ≤ b) = true := by
  have := h.eq
  simp at this
  exact decide_eq_true (by omega)

def undN (three : Bool) (p x : Nat) : Bool := if three then decide (x * x * x ≤ p * 2 ^ 96) else decide (x * x ≤ p * 2 ^ 64)
def bisN (three : Bool) (p : Nat) : Nat → Nat → Nat → Nat
  | 0, lo, _ => lo
  | f + 1, lo, hi => if lo + 1 < hi then (if undN three p ((lo + hi) / 2) then bisN three p f ((lo + hi) / 2) hi else bisN three p f lo ((lo + hi) / 2)) else lo
def rootN (three : Bool) (p : Nat) : Nat := bisN three p 37 0 137438953472 % 4294967296
theorem bis_end {three : Bool} {p f lo hi : Nat} (h : ¬ lo + 1 < hi) : bisN three p f lo hi = lo := by
  cases f with
  | zero => rfl
  | succ f => rw [bisN, if_neg h]
theorem bis_up {three : Bool} {p f lo hi : Nat} (h : lo + 1 < hi) (hu : undN three p ((lo + hi) / 2) = true) : bisN three p (f + 1) lo hi = bisN three p f ((lo + hi) / 2) hi := by rw [bisN, if_pos h, if_pos hu]
theorem bis_down {three : Bool} {p f lo hi : Nat} (h : lo + 1 < hi) (hu : undN three p ((lo + hi) / 2) = false) : bisN three p (f + 1) lo hi = bisN three p f lo ((lo + hi) / 2) := by rw [bisN, if_pos h, if_neg (by rw [hu]; decide)]

/-- no number from 2 on and below i divides n -/
def noDiv (n : Nat) : Nat → Bool
  | 0 => true
  | i + 1 => noDiv n i && (decide (i < 2) || n % i != 0)
def primeN (n : Nat) : Bool := noDiv n n && decide (1 < n)
theorem noDiv_le {n : Nat} : ∀ {i j : Nat}, i ≤ j → noDiv n j = true → noDiv n i = true
  | i, 0, h, hj => by rw [show i = 0 from by omega]; rfl
  | i, j + 1, h, hj => by
    by_cases e : i = j + 1
    · subst e; exact hj
    · rw [noDiv, Bool.and_eq_true] at hj
      exact noDiv_le (by omega) hj.1
theorem noDiv_hit {n i : Nat} (hi : 2 ≤ i) (hn : i < n) (h : n % i = 0) : primeN n = false := by
  cases hp : primeN n with
  | false => rfl
  | true =>
    unfold primeN at hp
    rw [Bool.and_eq_true] at hp
    have h1 := noDiv_le (show i + 1 ≤ n from hn) hp.1
    rw [noDiv, Bool.and_eq_true, h] at h1
    have := h1.2
    simp at this
    omega
theorem noDiv_miss {n i : Nat} (h : noDiv n i = true) (hm : n % i ≠ 0) : noDiv n (i + 1) = true := by
  rw [noDiv, h]; simp [hm]
theorem noDiv_two (n : Nat) : noDiv n 2 = true := by simp [noDiv]
def primesN : Nat → List Nat
  | 0 => []
  | p + 1 => if primeN p then primesN p ++ [p] else primesN p
theorem primes_all : (primesN 312).length = 64 := by decide +kernel
theorem primes_311 : (primesN 311).length = 63 := by decide +kernel
theorem primes_mono : ∀ {p q : Nat}, p ≤ q → (primesN p).length ≤ (primesN q).length
  | p, 0, h => by rw [show p = 0 from by omega]; exact Nat.le_refl _
  | p, q + 1, h => by
    by_cases e : p = q + 1
    · rw [e]; exact Nat.le_refl _
    · have := primes_mono (show p ≤ q from by omega)
      rw [primesN]
      split
      · rw [List.length_append]; omega
      · exact this
theorem primes_lt {p : Nat} (h : p < 312) : (primesN p).length < 64 := by
  have := primes_mono (show p ≤ 311 from by omega)
  rw [primes_311] at this
  omega
theorem roots_k : (primesN 312).map (rootN true) = kN := by decide +kernel
theorem roots_s : ((primesN 312).take 8).map (rootN false) = begN := by decide +kernel
end Go.Proofs.Ytblnclooobggnaa.H

namespace Go.Proofs.Ytblnclooobggnaa.Q
open Go.RowKit Go.Proofs.Ytblnclooobggnaa.L Go.Proofs.YtblnclooobggnaaW.PrintWords

/-- two rows that are of no one block -/
def Ap (v u : Value) : Prop := ∀ k, v.ownBlock = some k → u.ownBlock ≠ some k
theorem Ap.symm {v u : Value} (h : Ap v u) : Ap u v := fun k h1 h2 => h k h2 h1
theorem Ap.step {v u v1 : Value} {W : World} (h : Ap v u) (hat : v1.ownBlock = v.ownBlock ∨ ∃ b, v1.ownBlock = some b ∧ W.heap.size ≤ b) (hl : ∀ k, u.ownBlock = some k → k < W.heap.size) : Ap v1 u := fun k hk hu => by
  rcases hat with e | ⟨b, e, hb⟩
  · exact h k (e ▸ hk) hu
  · rw [e] at hk
    injection hk with hk
    have := hl k hu
    omega
theorem R_apart {k : IntKind} {e B : Nat} {w w1 : World} {v u : Value} {xs : List Int} (h : (Kd.int k).R e w B (fun _ => True) v xs) (hA : Ap v u) (hg : w.grownBy w1 u.ownBlock) : (Kd.int k).R e w1 B (fun _ => True) v xs := by
  obtain ⟨_, inner, hown, hr⟩ := h
  have h2 : (Kd.int k).R e w B (fun j => some j = v.ownBlock) v xs := ⟨fun j hj => hj.symm, inner, hown, hr.imp_ (fun _ _ hm => hm)⟩
  have h3 := Kd.R_grown h2 hg (fun j hj he => hA j hj.symm he.symm)
  exact Kd.R_mono h3 (fun _ _ => trivial)
section
variable {P : Program} {ops : Array Oper} {Q : Exit → Act → World → Prop} {B : Nat} {W : World} {a : Act} {o : Oper} {K : Nat → Option Nat → Act → World → Prop}
theorem ev_app1h {d : Tmp} (t e : TypeId) (k : IntKind) (bytes : Nat) (s x : Operand) (v : Value) (xs : List Int) (y : Int) (g : Nat) (hgd : o.guard = none) (ho : o.op = .call { callee := .builtin .append, args := #[s, x], argTypes := #[t, t] }) (hd : o.dst = some d) (ht : P.underlying t = some (.slice e))
    (hinfo : (P.info? e).map (fun i => (i.zero, i.size, i.bytes)) = some (some (.int k 0), 1, bytes)) (hb0 : 0 < bytes) (hs : a.eval s = v) (hx : a.eval x = .slice (some ⟨g, 0, none⟩) 1 1)
    (HO : (Kd.int k).R e W B (fun _ => True) v xs) (hg : W.heap[g]? = some (.cells #[.int k y] e (0, 0))) (hB : B ≤ W.heap.size) (hl : (xs.length + 1) * bytes ≤ 140737488355328)
    (h : ∀ v1 w1, (Kd.int k).R e w1 B (fun _ => True) v1 (xs ++ [y]) → Below B W w1 → W.grownBy w1 v.ownBlock → (v1.ownBlock = v.ownBlock ∨ ∃ b, v1.ownBlock = some b ∧ W.heap.size ≤ b) → K B none (a.put (some d) v1) w1) : wpList P ops (EvQ (Gr B none W) (Goes K B none) Q) [o] a W := by
  have hC : (Kd.int k).C W (some ⟨g, 0, none⟩) 1 [y] := by
    have hR := R_of_blk (k := k) (l := [y]) (B := 0) (by simpa using hg) (Nat.zero_le _) (show 1 ≤ maxLen from by decide)
    exact (Kd.R_reads' hR).2.2
  refine Kd.R_append_row (Value.int k) 0 B hgd s x t e (.int k 0) bytes ho ht hinfo rfl hb0 v xs [y] (some ⟨g, 0, none⟩) 1 1 (fun _ => True) hs hx (fun _ _ => trivial) HO hC (Below.refl _ _) hB hl ?_
  intro v1 w1 h1 h2 h3 h4
  rw [hd]
  exact ev_app ⟨h2.os, h2.tape, h2.output, h2.size, fun i hi _ => h2.block i hi⟩ (Nat.le_refl _) (NewRow.none_ _ _) (h v1 w1 h1 h2 h3 h4)
end
theorem app2e {P : Program} {l : List Oper} {Q : Exit → Act → World → Prop} {B : Nat} {W : World} {a : Act} {k1 k2 k3 k4 : Nat} {js : List Nat} (d1 d2 d3 d4 : Tmp) (t1 e1 t2 e2 : TypeId) (ka kb : IntKind) (by1 by2 : Nat) (s1 x1 s2 x2 : Operand)
    (v1 v2 : Value) (xs1 xs2 : List Int) (y1 y2 : Int)
    (o1 : (pick l k1).guard = none ∧ (pick l k1).op = .buildSlice t1 1 #[(0, x1)] ∧ (pick l k1).dst = some d1) (o2 : (pick l k2).guard = none ∧ (pick l k2).op = .call { callee := .builtin .append, args := #[s1, .tmp d1], argTypes := #[t1, t1] } ∧ (pick l k2).dst = some d2)
    (o3 : (pick l k3).guard = none ∧ (pick l k3).op = .buildSlice t2 1 #[(0, x2)] ∧ (pick l k3).dst = some d3) (o4 : (pick l k4).guard = none ∧ (pick l k4).op = .call { callee := .builtin .append, args := #[s2, .tmp d3], argTypes := #[t2, t2] } ∧ (pick l k4).dst = some d4)
    (ht1 : P.underlying t1 = some (.slice e1)) (hi1 : (P.info? e1).map (fun i => (i.zero, i.size, i.bytes)) = some (some (.int ka 0), 1, by1)) (hb1 : 0 < by1)
    (ht2 : P.underlying t2 = some (.slice e2)) (hi2 : (P.info? e2).map (fun i => (i.zero, i.size, i.bytes)) = some (some (.int kb 0), 1, by2)) (hb2 : 0 < by2) (hA : Ap v1 v2)
    (hds : (d1 != d2 && d1 != d3 && d1 != d4 && d2 != d3 && d2 != d4 && d3 != d4) = true) (hsz : d1 < a.tmps.size ∧ d2 < a.tmps.size ∧ d3 < a.tmps.size ∧ d4 < a.tmps.size)
    (hfr : (free s1 d1 && free s1 d3 && free x2 d1 && free x2 d2 && free s2 d1 && free s2 d2 && free s2 d3 && free x1 d3) = true)
    (hs1 : a.eval s1 = v1) (hx1 : a.eval x1 = .int ka y1) (hs2 : a.eval s2 = v2) (hx2 : a.eval x2 = .int kb y2)
    (R1 : (Kd.int ka).R e1 W B (fun _ => True) v1 xs1) (R2 : (Kd.int kb).R e2 W B (fun _ => True) v2 xs2) (hB : B ≤ W.heap.size) (hl1 : (xs1.length + 1) * by1 ≤ 140737488355328) (hl2 : (xs2.length + 1) * by2 ≤ 140737488355328)
    (h : ∀ (u1 u3 : Value) (v1' v2' : Value) (w' : World), (Kd.int ka).R e1 w' B (fun _ => True) v1' (xs1 ++ [y1]) → (Kd.int kb).R e2 w' B (fun _ => True) v2' (xs2 ++ [y2]) → Below B W w' → Ap v1' v2' →
      wpQuiet P l.toArray (fun w'' => ∃ n : GW w' B none, w'' = n.w) (fun a' => Q .normal a' w') (picks l js) ((((a.put (some d1) u1).put (some d2) v1').put (some d3) u3).put (some d4) v2')) :
    wpTr P l Q (.two [] k1 (.two [] k2 (.ev [] k3 (.ev [] k4 (.done js))) k3 (.ev [] k2 (.ev [] k4 (.done js)))) k3 (.ev [] k1 (.ev [] k2 (.ev [] k4 (.done js))))) B none a W := by
  obtain ⟨g1, p1, q1⟩ := o1
  obtain ⟨g2, p2, q2⟩ := o2
  obtain ⟨g3, p3, q3⟩ := o3
  obtain ⟨g4, p4, q4⟩ := o4
  simp only [Bool.and_eq_true, bne_iff_ne, ne_eq] at hds
  obtain ⟨⟨⟨⟨⟨n12, n13⟩, n14⟩, n23⟩, n24⟩, n34⟩ := hds
  simp only [Bool.and_eq_true] at hfr
  obtain ⟨⟨⟨⟨⟨⟨⟨f1, f2⟩, f3⟩, f4⟩, f5⟩, f6⟩, f7⟩, f8⟩ := hfr
  obtain ⟨z1, z2, z3, z4⟩ := hsz
  have al : ∀ {w : World} (hb : B ≤ w.heap.size) (ob : Obj), Below w.heap.size w (w.alloc ob) := fun _ ob => (Below.refl _ _).alloc (Nat.le_refl _) ob
  have lt1 := Kd.R_lt R1
  have lt2 := Kd.R_lt R2
  refine ⟨?_, ?_⟩
  · -- the first row's number is built first
    refine ev_lit1 t1 e1 ka by1 x1 y1 g1 p1 q1 ht1 hi1 hx1 hB ?_
    have hnew := heap_alloc_new W (.cells #[.int ka y1] e1)
    have b1 := al hB (.cells #[.int ka y1] e1)
    have hB1 : B ≤ (W.alloc (.cells #[.int ka y1] e1)).heap.size := Nat.le_trans hB b1.size
    have R1' := Kd.R_below R1 b1
    have R2' := Kd.R_below R2 b1
    have sz1 := b1.size
    have bb1 : Below B W (W.alloc (.cells #[.int ka y1] e1)) := b1.mono hB
    generalize W.alloc (.cells #[.int ka y1] e1) = W1 at hnew b1 sz1 hB1 R1' R2' bb1 ⊢
    generalize W.heap.size = n1 at hnew ⊢
    refine ⟨?_, ?_⟩
    · -- it is appended, then the second
      refine ev_app1h t1 e1 ka by1 s1 (.tmp d1) v1 xs1 y1 n1 g2 p2 q2 ht1 hi1 hb1 ((put_free a f1 _).trans hs1) (put_same a z1 _) R1' hnew hB1 hl1 ?_
      intro w1 W2 R1'' bb2 hg2 ha2
      have R2'' := R_apart R2' hA.symm hg2
      have hA2 := Ap.step hA ha2 (Kd.R_lt R2')
      have hB2 := Nat.le_trans hB1 bb2.size
      refine ev_lit1 t2 e2 kb by2 x2 y2 g3 p3 q3 ht2 hi2 ((put_free _ f4 _).trans ((put_free _ f3 _).trans hx2)) hB2 ?_
      have hnew2 := heap_alloc_new W2 (.cells #[.int kb y2] e2)
      have b3 := al hB2 (.cells #[.int kb y2] e2)
      have hB3 : B ≤ (W2.alloc (.cells #[.int kb y2] e2)).heap.size := Nat.le_trans hB2 b3.size
      have R13 := Kd.R_below R1'' b3
      have R23 := Kd.R_below R2'' b3
      have bb3 := bb2.trans (b3.mono hB2)
      generalize W2.alloc (.cells #[.int kb y2] e2) = W3 at hnew2 b3 hB3 R13 R23 bb3 ⊢
      generalize W2.heap.size = n2 at hnew2 ⊢
      refine ev_app1h t2 e2 kb by2 s2 (.tmp d3) v2 xs2 y2 n2 g4 p4 q4 ht2 hi2 hb2 ((put_free _ f7 _).trans ((put_free _ f6 _).trans ((put_free _ f5 _).trans hs2))) (put_same _ (by rw [put_size, put_size]; exact z3) _) R23 hnew2 hB3 hl2 ?_
      intro w2 W4 R24 bb4 hg4 ha4
      exact h _ _ w1 w2 W4 (R_apart R13 hA2 hg4) R24 (bb1.trans (bb3.trans bb4)) (Ap.step hA2.symm ha4 (Kd.R_lt R13)).symm
    · -- the second row's number is built, then the first is appended
      refine ev_lit1 t2 e2 kb by2 x2 y2 g3 p3 q3 ht2 hi2 ((put_free _ f3 _).trans hx2) hB1 ?_
      have hnew2 := heap_alloc_new W1 (.cells #[.int kb y2] e2)
      have b3 := al hB1 (.cells #[.int kb y2] e2)
      have hB3 : B ≤ (W1.alloc (.cells #[.int kb y2] e2)).heap.size := Nat.le_trans hB1 b3.size
      have hnew1 := blk_below hnew b3
      have R13 := Kd.R_below R1' b3
      have R23 := Kd.R_below R2' b3
      have bb3 := bb1.trans (b3.mono hB1)
      generalize W1.alloc (.cells #[.int kb y2] e2) = W3 at hnew2 b3 hB3 R13 R23 bb3 hnew1 ⊢
      obtain ⟨n2, en2⟩ : ∃ n, n = W1.heap.size := ⟨_, rfl⟩
      have hn2 : W.heap.size ≤ n2 := by rw [en2]; exact sz1
      rw [← en2] at hnew2 ⊢
      refine ev_app1h t1 e1 ka by1 s1 (.tmp d1) v1 xs1 y1 n1 g2 p2 q2 ht1 hi1 hb1 ((put_free _ f2 _).trans ((put_free _ f1 _).trans hs1)) ((put_free _ (by simpa [free] using n13) _).trans (put_same a z1 _)) R13 hnew1 hB3 hl1 ?_
      intro w1 W4 R14 bb4 hg4 ha4
      have R24 := R_apart R23 hA.symm hg4
      have hA4 := Ap.step hA ha4 (Kd.R_lt R23)
      have hnew4 := blk_grown hnew2 hg4 (fun he => by have := lt1 n2 he.symm; omega)
      refine ev_app1h t2 e2 kb by2 s2 (.tmp d3) v2 xs2 y2 n2 g4 p4 q4 ht2 hi2 hb2 ((put_free _ f6 _).trans ((put_free _ f7 _).trans ((put_free _ f5 _).trans hs2))) ((put_free _ (by simpa [free] using Ne.symm n23) _).trans (put_same _ (by rw [put_size]; exact z3) _)) R24 hnew4 (Nat.le_trans hB3 bb4.size) hl2 ?_
      intro w2 W5 R25 bb5 hg5 ha5
      have := h (.slice (some ⟨n1, 0, none⟩) 1 1) (.slice (some ⟨n2, 0, none⟩) 1 1) w1 w2 W5 (R_apart R14 hA4 hg5) R25 (bb3.trans (bb4.trans bb5)) (Ap.step hA4.symm ha5 (Kd.R_lt R14)).symm
      rwa [put_comm (a.put (some d1) _) n23] at this
  · -- the second row's number is built first
    refine ev_lit1 t2 e2 kb by2 x2 y2 g3 p3 q3 ht2 hi2 hx2 hB ?_
    have hnew := heap_alloc_new W (.cells #[.int kb y2] e2)
    have b1 := al hB (.cells #[.int kb y2] e2)
    have hB1 : B ≤ (W.alloc (.cells #[.int kb y2] e2)).heap.size := Nat.le_trans hB b1.size
    have R1' := Kd.R_below R1 b1
    have R2' := Kd.R_below R2 b1
    have sz1 := b1.size
    have bb1 : Below B W (W.alloc (.cells #[.int kb y2] e2)) := b1.mono hB
    generalize W.alloc (.cells #[.int kb y2] e2) = W1 at hnew b1 sz1 hB1 R1' R2' bb1 ⊢
    obtain ⟨n2, en2⟩ : ∃ n, n = W.heap.size := ⟨_, rfl⟩
    have hn2 : W.heap.size ≤ n2 := Nat.le_of_eq en2.symm
    rw [← en2] at hnew ⊢
    refine ev_lit1 t1 e1 ka by1 x1 y1 g1 p1 q1 ht1 hi1 ((put_free _ f8 _).trans hx1) hB1 ?_
    have hnew1 := heap_alloc_new W1 (.cells #[.int ka y1] e1)
    have b3 := al hB1 (.cells #[.int ka y1] e1)
    have hB3 : B ≤ (W1.alloc (.cells #[.int ka y1] e1)).heap.size := Nat.le_trans hB1 b3.size
    have hnew2 := blk_below hnew b3
    have R13 := Kd.R_below R1' b3
    have R23 := Kd.R_below R2' b3
    have bb3 := bb1.trans (b3.mono hB1)
    generalize W1.alloc (.cells #[.int ka y1] e1) = W3 at hnew2 b3 hB3 R13 R23 bb3 hnew1 ⊢
    generalize W1.heap.size = n1 at hnew1 ⊢
    refine ev_app1h t1 e1 ka by1 s1 (.tmp d1) v1 xs1 y1 n1 g2 p2 q2 ht1 hi1 hb1 ((put_free _ f1 _).trans ((put_free _ f2 _).trans hs1)) (put_same _ (by rw [put_size]; exact z1) _) R13 hnew1 hB3 hl1 ?_
    intro w1 W4 R14 bb4 hg4 ha4
    have R24 := R_apart R23 hA.symm hg4
    have hA4 := Ap.step hA ha4 (Kd.R_lt R23)
    have hnew4 := blk_grown hnew2 hg4 (fun he => by have := lt1 n2 he.symm; omega)
    refine ev_app1h t2 e2 kb by2 s2 (.tmp d3) v2 xs2 y2 n2 g4 p4 q4 ht2 hi2 hb2 ((put_free _ f6 _).trans ((put_free _ f5 _).trans ((put_free _ f7 _).trans hs2))) ((put_free _ (by simpa [free] using Ne.symm n23) _).trans ((put_free _ (by simpa [free] using Ne.symm n13) _).trans (put_same a z3 _))) R24 hnew4 (Nat.le_trans hB3 bb4.size) hl2 ?_
    intro w2 W5 R25 bb5 hg5 ha5
    have := h (.slice (some ⟨n1, 0, none⟩) 1 1) (.slice (some ⟨n2, 0, none⟩) 1 1) w1 w2 W5 (R_apart R14 hA4 hg5) R25 (bb3.trans (bb4.trans bb5)) (Ap.step hA4.symm ha5 (Kd.R_lt R14)).symm
    rw [put_comm (a.put (some d1) _) n23, put_comm a n13] at this
    exact this
end Go.Proofs.Ytblnclooobggnaa.Q

namespace Go.Proofs.Ytblnclooobggnaa.H
open Go.RowKit Go.Proofs.Ytblnclooobggnaa.L Go.Proofs.Ytblnclooobggnaa.N Go.Proofs.YtblnclooobggnaaW.PrintWords

theorem ownK {k : IntKind} {t : TypeId} {b B : Nat} {l : List Nat} {w : World} (h : AB k t b l w) (hB : B ≤ b) (hl : l.length ≤ maxLen) : (Kd.int k).R t w B (fun _ => True) (.slice (some ⟨b, 0, none⟩) l.length l.length) (nat l) := by
  have := R_of_blk (w := w) (b := b) (B := B) (k := k) (e := t) (l := nat l) (by
    rw [show (List.map (Value.int k) (nat l)).toArray = arr k l from by simp [arr, nat]]
    exact h) hB (by rw [nat_length]; exact hl)
  rwa [nat_length] at this
theorem rowK {k : IntKind} {t : TypeId} {b : Nat} {l : List Nat} {w : World} (h : AB k t b l w) (hl : l.length ≤ maxLen) : (Kd.int k).C w (some ⟨b, 0, none⟩) l.length (nat l) := by
  have := (Kd.R_reads' (ownK h (Nat.zero_le _) hl)).2.2
  rwa [nat_length] at this
theorem R_openK {k : IntKind} {e : TypeId} {l : List Nat} {w : World} {B : Nat} {v : Value} (h : (Kd.int k).R e w B (fun _ => True) v (nat l)) (hn : 0 < l.length) : ∃ g cap, v = .slice (some ⟨g, 0, none⟩) l.length cap ∧ l.length ≤ cap ∧ B ≤ g ∧ g < w.heap.size := by
  obtain ⟨g, cap, hv, hB, hg, _⟩ := Kd.R_form h (by rw [nat_length]; exact hn)
  rw [nat_length] at hv
  subst hv
  have := (Kd.R_reads' h).2.1
  exact ⟨g, cap, rfl, this, hB, hg⟩
theorem R_atK {k : IntKind} {e : TypeId} {l : List Nat} {w : World} {B g n cap : Nat} (h : (Kd.int k).R e w B (fun _ => True) (.slice (some ⟨g, 0, none⟩) n cap) (nat l)) {j : Nat} (hj : j < l.length) :
    w.cell? ⟨g, j, none⟩ = some (.int k ((l.getD j 0 : Nat) : Int)) ∧ w.frozen? ⟨g, j, none⟩ = false := by
  have hn := (Kd.R_reads' h).1
  rw [nat_length] at hn
  have := Kd.R_celln (enc := Value.int k) (0 : Int) h (j : Int) (by omega) (by omega)
  rw [Int.toNat_natCast] at this
  refine ⟨this.1.trans ?_, this.2⟩
  rw [← nat_get hj]
  simp [rdOf]
theorem R_wrK {k : IntKind} {e : TypeId} {l : List Nat} {w : World} {B g n cap : Nat} (h : (Kd.int k).R e w B (fun _ => True) (.slice (some ⟨g, 0, none⟩) n cap) (nat l)) (j x : Nat) :
    (Kd.int k).R e (w.setCell ⟨g, j, none⟩ (.int k ((x : Nat) : Int))) B (fun _ => True) (.slice (some ⟨g, 0, none⟩) n cap) (nat (l.set j x)) ∧ w.grownBy (w.setCell ⟨g, j, none⟩ (.int k ((x : Nat) : Int))) (some g) := by
  have := Kd.R_putg (enc := Value.int k) h (j : Int) ((x : Nat) : Int)
  rw [Int.toNat_natCast] at this
  refine ⟨?_, this.2⟩
  have h1 := this.1
  rwa [show (nat l).set j ((x : Nat) : Int) = nat (l.set j x) from by simp [nat]] at h1
/-- a row that is older than another one is of another block -/
theorem Ap_older {k k' : IntKind} {e e' : TypeId} {w w2 : World} {B B2 : Nat} {v u : Value} {xs ys : List Int} (h : (Kd.int k).R e w B (fun _ => True) v xs) (h2 : (Kd.int k').R e' w2 B2 (fun _ => True) u ys) (hB : w.heap.size ≤ B2) : Q.Ap v u := fun b hb hu => by
  have h1 := Kd.R_lt h b hb
  have h3 := Kd.R_base h2 b hu
  omega
section
variable {P : Program} {ops : Array Oper} {rest : List Oper} {o : Oper} {a : Act} {Q : Exit → Act → World → Prop}
/-- append(s, y), and where it lies -/
theorem app1a {w0 W : World} (k : IntKind) (B : Nat) (s x : Operand) (t e : TypeId) (bytes : Nat) (hgd : o.guard = none)
    (ho : o.op = .call { callee := .builtin .append, args := #[s, x], argTypes := #[t, t] }) (ht : P.underlying t = some (.slice e))
    (hinfo : (P.info? e).map (fun i => (i.zero, i.size, i.bytes)) = some (some (.int k 0), 1, bytes)) (hb0 : 0 < bytes)
    (v : Value) (xs : List Int) (y : Int) (hs : a.eval s = v) (hx : a.eval x = .slice (some ⟨W.heap.size, 0, none⟩) 1 1)
    (HO : (Kd.int k).R e W B (fun _ => True) v xs) (HB : Below B w0 W) (hB : B ≤ W.heap.size) (hl : (xs.length + 1) * bytes ≤ 140737488355328)
    (h : ∀ v1 w1, (Kd.int k).R e w1 B (fun _ => True) v1 (xs ++ [y]) → Below B w0 w1 → W.grownBy w1 v.ownBlock → (v1.ownBlock = v.ownBlock ∨ ∃ b, v1.ownBlock = some b ∧ W.heap.size ≤ b) → wpList P ops Q rest (a.put o.dst v1) w1) :
    wpList P ops Q (o :: rest) a (W.alloc (.cells #[.int k y] e)) :=
  Kd.R_append (Kd.int k) B hgd s x t e (.int k 0) bytes ho ht hinfo rfl (by show 0 < 1; decide) hb0 v xs y [.int k y] (fun _ => True) (fun _ => False) hs hx rfl (fun _ h => h.elim) (fun _ _ => trivial) HO HB hB hl h
end
theorem info_u64 : (Try.prog.info? 64).map (fun i => (i.zero, i.size, i.bytes)) = some (some (.int .u64 0), 1, 8) := by kernel_rfl
theorem info_w32 : (Try.prog.info? 45).map (fun i => (i.zero, i.size, i.bytes)) = some (some (.int .u32 0), 1, 4) := by kernel_rfl
theorem make_u64 (n : Nat) (N : Int) (hN : N = (n : Int)) (hn : n ≤ 1000000) (w : World) : (Instr.makeSlice 154 (.int .i64 N) (.int .i64 N)).run Try.prog w = .ok (.slice (some ⟨w.heap.size, 0, none⟩) n n) (w.alloc (.cells (arr .u64 (List.replicate n 0)) 64)) := by
  subst hN
  rw [← made_arr]
  exact run_make_row' 154 64 (.int .u64 0) 8 Try.underlying154 info_u64 rfl .i64 .i64 n (by omega) (by omega) w

set_option maxRecDepth 100000 in
theorem rturn_any (x n : Nat) (w : World) (hx : x < 4294967296) (hn : n ≤ 32) :
    Calls Try.prog 91 #[.int .u32 (x : Int), .int .u32 (n : Int)] w fun e w' => e = .returned (.int .u32 (rot x n : Nat)) ∧ w' = w := by
  have HX := Lib.hid hx
  have HN := Lib.hid hn
  have H0 := Lib.hid (rot0 x)
  have z1 : (n : Int) ≤ 32 := by omega
  clear hx hn
  go_enter Try.func91, Try.ntmps91
  go_wp2_with fail
  go_loopg [0, 5] (n + 1) (fun g v0 v5 w' => ∃ i y : Nat, v5 = .int .u32 (i : Int) ∧ v0 = .int .u32 (y : Int) ∧ Hid (rot x i = y) ∧ Hid (i ≤ n ∧ n < g + i) ∧ w' = w)
  case atStart => exact ⟨0, x, rfl, rfl, H0, Lib.hid ⟨by omega, by omega⟩, rfl⟩
  case round =>
    obtain ⟨i, y, rfl, rfl, HY, HJ, rfl⟩ := hrel
    cases gk with
    | zero => have := HJ.out; omega
    | succ k =>
      have hy : y < 4294967296 := HY.out ▸ rot_lt (by have := HJ.out; have := HN.out; omega) HX.out
      by_cases hlt : i < n
      · have HJ' := Lib.hid (show i < n ∧ n < (k + 1) + i from ⟨hlt, HJ.out.2⟩)
        obtain ⟨z, hz⟩ : ∃ z, turn1 y = z := ⟨_, rfl⟩
        have HZ := Lib.hid (show rot x (i + 1) = z from by rw [← turn1_rot (by have := HN.out; omega), HY.out, hz])
        have e0 : (y : Int) / 2 + (y : Int) % 2 * 2147483648 = (z : Int) := by rw [← hz]; unfold turn1; omega
        have hzl : z < 4294967296 := by rw [← hz]; unfold turn1; omega
        have e1 : IntKind.u32.wrap ((y : Int) % 2 * 2147483648) = (y : Int) % 2 * 2147483648 := wraps_u32 _ (by omega) (by omega)
        have e2 : IntKind.u32.wrap ((y : Int) / 2 + (y : Int) % 2 * 2147483648) = (z : Int) := by rw [e0]; exact wraps_u32 _ (by omega) (by omega)
        have z2 : (i : Int) < (n : Int) := by omega
        have z3 : (0 : Int) ≤ (i : Int) := by omega
        have z4 : (y : Int) < 4294967296 := by omega
        have z5 : (0 : Int) ≤ (y : Int) := by omega
        clear hz hlt HJ hy
        go_wp2_with fail
        go_roundg k
        case measure => have := HJ'.out; omega
        case rel => exact ⟨i + 1, z, by go_num, rfl, HZ, Lib.hid (by have := HJ'.out; omega), rfl⟩
      · obtain rfl : i = n := by have := HJ.out; omega
        clear hlt HJ hy
        have HY' := Lib.hid HY.out
        go_wp2_with fail
        go_ret
        exact ⟨by rw [HY'.out]; rfl, rfl⟩
set_option maxRecDepth 100000 in
theorem rdown_any (x n : Nat) (w : World) (hx : x < 4294967296) (hn : n ≤ 32) :
    Calls Try.prog 99 #[.int .u32 (x : Int), .int .u32 (n : Int)] w fun e w' => e = .returned (.int .u32 (x / 2 ^ n : Nat)) ∧ w' = w := by
  have HX := Lib.hid hx
  have HN := Lib.hid hn
  have H0 := Lib.hid (show x / 2 ^ 0 = x from by rw [Nat.pow_zero, Nat.div_one])
  have z1 : (n : Int) ≤ 32 := by omega
  clear hx hn
  go_enter Try.func99, Try.ntmps99
  go_wp2_with fail
  go_loopg [0, 5] (n + 1) (fun g v0 v5 w' => ∃ i y : Nat, v5 = .int .u32 (i : Int) ∧ v0 = .int .u32 (y : Int) ∧ Hid (x / 2 ^ i = y) ∧ Hid (i ≤ n ∧ n < g + i) ∧ w' = w)
  case atStart => exact ⟨0, x, rfl, rfl, H0, Lib.hid ⟨by omega, by omega⟩, rfl⟩
  case round =>
    obtain ⟨i, y, rfl, rfl, HY, HJ, rfl⟩ := hrel
    cases gk with
    | zero => have := HJ.out; omega
    | succ k =>
      have hy : y < 4294967296 := HY.out ▸ Nat.lt_of_le_of_lt (Nat.div_le_self _ _) HX.out
      by_cases hlt : i < n
      · have HJ' := Lib.hid (show i < n ∧ n < (k + 1) + i from ⟨hlt, HJ.out.2⟩)
        obtain ⟨z, hz⟩ : ∃ z, y / 2 = z := ⟨_, rfl⟩
        have HZ := Lib.hid (show x / 2 ^ (i + 1) = z from by rw [Nat.pow_succ, ← Nat.div_div_eq_div_mul, HY.out, hz])
        have e0 : (y : Int) / 2 = (z : Int) := by omega
        have z2 : (i : Int) < (n : Int) := by omega
        have z3 : (0 : Int) ≤ (i : Int) := by omega
        have z4 : (y : Int) < 4294967296 := by omega
        have z5 : (0 : Int) ≤ (y : Int) := by omega
        clear hz hlt HJ hy
        go_wp2_with fail
        go_roundg k
        case measure => have := HJ'.out; omega
        case rel => exact ⟨i + 1, z, by go_num, rfl, HZ, Lib.hid (by have := HJ'.out; omega), rfl⟩
      · obtain rfl : i = n := by have := HJ.out; omega
        clear hlt HJ hy
        have HY' := Lib.hid HY.out
        go_wp2_with fail
        go_ret
        exact ⟨by rw [HY'.out]; rfl, rfl⟩
set_option maxRecDepth 100000 in
theorem prime_any (n : Nat) (w : World) (hn : n ≤ 1000) :
    Calls Try.prog 69 #[.int .u64 (n : Int)] w fun e w' => e = .returned (.bool (primeN n)) ∧ w' = w := by
  have H2 := Lib.hid (noDiv_two n)
  have z1 : (n : Int) ≤ 1000 := by omega
  obtain ⟨r, hr⟩ : ∃ r, primeN n = r := ⟨_, rfl⟩
  have HR := Lib.hid hr
  rw [hr]
  clear hr hn
  go_enter Try.func69, Try.ntmps69
  go_wp2_with fail
  go_loopg [3] (n + 1) (fun g v3 w' => ∃ i : Nat, v3 = .int .u64 (i : Int) ∧ Hid (noDiv n i = true) ∧ Hid (2 ≤ i ∧ (i ≤ n ∨ i = 2) ∧ n + 2 < g + i) ∧ w' = w)
  case atStart => exact ⟨2, rfl, H2, Lib.hid ⟨by omega, by omega, by omega⟩, rfl⟩
  case round =>
    obtain ⟨i, rfl, HD, HJ, rfl⟩ := hrel
    clear H2
    have hi2 := HJ.out.1
    by_cases hlt : i < n
    · cases gk with
      | zero => have := HJ.out; omega
      | succ k =>
        have HJ' := Lib.hid (show 2 ≤ i ∧ i < n ∧ n + 2 < (k + 1) + i from ⟨hi2, hlt, HJ.out.2.2⟩)
        obtain ⟨m, hm⟩ : ∃ m, n % i = m := ⟨_, rfl⟩
        have e1 : (n : Int) % (i : Int) = (m : Int) := by rw [← hm]; omega
        have z2 : (i : Int) < (n : Int) := by omega
        have z3 : (2 : Int) ≤ (i : Int) := by omega
        have z4 : (0 : Int) ≤ (n : Int) := by omega
        by_cases h0 : m = 0
        · have HF := Lib.hid (show r = false from by rw [← HR.out]; exact noDiv_hit hi2 hlt (by rw [hm, h0]))
          have t1 : ((m : Int) == 0) = true := by rw [beq_iff_eq]; omega
          have t2 : (m == 0) = true := by rw [beq_iff_eq]; omega
          clear hm h0 hlt HJ hi2
          go_wp2_with fail
          go_ret
          exact ⟨by rw [HF.out]; rfl, rfl⟩
        · have HM := Lib.hid (noDiv_miss HD.out (by rw [hm]; exact h0))
          have t1 : ((m : Int) == 0) = false := by rw [beq_eq_false_iff_ne]; omega
          have t2 : (m == 0) = false := by rw [beq_eq_false_iff_ne]; omega
          clear hm h0 hlt HJ hi2
          go_wp2_with fail
          go_roundg k
          case measure => have := HJ'.out; omega
          case rel => exact ⟨i + 1, by go_num, HM, Lib.hid (by have := HJ'.out; omega), rfl⟩
    · have z2 : ¬ (i : Int) < (n : Int) := by omega
      have z3 : decide ((i : Int) < (n : Int)) = false := decide_eq_false z2
      have z4 : decide (i < n) = false := decide_eq_false hlt
      have hD : noDiv n n = true := noDiv_le (by omega) HD.out
      by_cases h1 : 1 < n
      · have HF := Lib.hid (show r = true from by rw [← HR.out, primeN, hD, decide_eq_true h1]; rfl)
        have t1 : decide ((1 : Int) < (n : Int)) = true := decide_eq_true (by omega)
        have t2 : decide (1 < n) = true := decide_eq_true h1
        clear h1 hD hlt HJ hi2
        go_wp2_with fail
        go_ret
        exact ⟨by rw [HF.out]; rfl, rfl⟩
      · have HF := Lib.hid (show r = false from by rw [← HR.out, primeN, hD, decide_eq_false h1]; rfl)
        have t1 : decide ((1 : Int) < (n : Int)) = false := decide_eq_false (by omega)
        have t2 : decide (1 < n) = false := decide_eq_false h1
        clear h1 hD hlt HJ hi2
        go_wp2_with fail
        go_ret
        exact ⟨by rw [HF.out]; rfl, rfl⟩
end Go.Proofs.Ytblnclooobggnaa.H

namespace Go.Proofs.Ytblnclooobggnaa.A
open Go.RowKit Go.Proofs.Ytblnclooobggnaa.L Go.Proofs.Ytblnclooobggnaa.N Go.Proofs.YtblnclooobggnaaW.PrintWords

theorem be8_drop {N i q d : Nat} (hi : i < 8) (hq : N / 256 ^ i = q) (hd : q % 256 = d) : nat ((be8 N).drop (8 - (i + 1))) = [(d : Int)] ++ nat ((be8 N).drop (8 - i)) := by
  have h : 7 - i < (be8 N).length := by rw [be8_len]; omega
  have e : (be8 N)[7 - i] = d := by
    have := be8_get N (k := 7 - i) (by omega)
    rw [List.getD_eq_getElem?_getD, List.getElem?_eq_getElem h] at this
    simp only [Option.getD_some] at this
    rw [this, show 7 - (7 - i) = i from by omega, hq, hd]
  rw [show 8 - (i + 1) = 7 - i from by omega, List.drop_eq_getElem_cons h, e, show 7 - i + 1 = 8 - i from by omega]
  rfl
theorem be8_small {i : Nat} (h : i < 16777216) : be8 i = [0, 0, 0, 0, 0, i / 65536 % 256, i / 256 % 256, i % 256] := by
  have e : be8 i = [i / 256 ^ 7 % 256, i / 256 ^ 6 % 256, i / 256 ^ 5 % 256, i / 256 ^ 4 % 256, i / 256 ^ 3 % 256, i / 256 ^ 2 % 256, i / 256 ^ 1 % 256, i / 256 ^ 0 % 256] := rfl
  rw [e, Nat.div_eq_of_lt (show i < 256 ^ 7 from Nat.lt_of_lt_of_le h (by decide)), Nat.div_eq_of_lt (show i < 256 ^ 6 from Nat.lt_of_lt_of_le h (by decide)), Nat.div_eq_of_lt (show i < 256 ^ 5 from Nat.lt_of_lt_of_le h (by decide)), Nat.div_eq_of_lt (show i < 256 ^ 4 from Nat.lt_of_lt_of_le h (by decide)), Nat.div_eq_of_lt (show i < 256 ^ 3 from h), Nat.pow_zero, Nat.div_one]
set_option maxRecDepth 100000 in
set_option maxHeartbeats 6400000 in
theorem rstream_any (key : List Nat) (N n : Nat) (A : Option Addr) (c : Nat) (w : World) (hC : (Kd.int .u8).C w A 16 (nat key)) (hk : key.length = 16) (hk8 : ∀ x ∈ key, x < 256) (hN : N < 18446744073709551616) (hn : n ≤ 65536) :
    Calls Try.prog 72 #[.slice A 16 c, .int .u64 (N : Int), .int .i64 (n : Int)] w fun e w' => ∃ A' c', e = .returned (.slice A' n c') ∧ (Kd.int .u8).C w' A' n (nat (atN key N 0 n)) ∧ Below w.heap.size w w' := by
  have HC := Lib.hid hC
  have HK := Lib.hid (show key.length = 16 ∧ ∀ x ∈ key, x < 256 from ⟨hk, hk8⟩)
  have HNn := Lib.hid (show N < 18446744073709551616 ∧ n ≤ 65536 from ⟨hN, hn⟩)
  have HSn := Lib.hid (fun m => strN_succ key N 0 m)
  have HSl := Lib.hid (fun m => strN_len key N 0 m)
  have HDr := Lib.hid (show (be8 N).drop 8 = [] from List.drop_eq_nil_of_le (by rw [be8_len]; exact Nat.le_refl _))
  have HCt := Lib.hid (fun m (h : n ≤ 16 * m) => atN_cut key N 0 0 n m (by omega))
  have z1 : (n : Int) ≤ 65536 := by omega
  have z2 : (0 : Int) ≤ (n : Int) := by omega
  have z3 : (N : Int) < 18446744073709551616 := by omega
  have z4 : (0 : Int) ≤ (N : Int) := by omega
  clear hC hk hk8 hN hn
  go_enter Try.func72, Try.ntmps72
  go_wp2_with fail
  refine (refboxes_any w).mono ?_
  rintro e w1 ⟨v7, rfl, hr7, hb7⟩
  obtain ⟨A7, c7, hv7, hc7, hC7⟩ := Kd.R_reads hr7
  have hv7' : v7 = .slice A7 256 c7 := by rw [hv7, nat_length, boxT_len]
  rw [nat_length, boxT_len] at hC7
  subst hv7'
  have HBx := Lib.hid hC7
  have HB1 := Lib.hid hb7
  clear hr7 hb7 hv7 hc7 hC7
  go_wp2_with fail
  go_loopg [8, 9] 5000 (fun g v8 v9 w' => ∃ (m l : Nat) (A8 : Option Addr) (c8 : Nat), v9 = .int .i64 (m : Int) ∧ v8 = .slice A8 l c8 ∧ Hid (l = 16 * m ∧ m ≤ 4097 ∧ 16 * m < n + 16 ∧ 4097 < g + m) ∧ Hid ((Kd.int .u8).R 5 w' w1.heap.size (fun _ => True) (.slice A8 l c8) (nat (strN key N 0 m))) ∧ Hid (Below w1.heap.size w1 w'))
  case atStart => exact ⟨0, 0, none, 0, rfl, rfl, Lib.hid ⟨by omega, by omega, by omega, by omega⟩, Lib.hid (Kd.R_nil _ _ _ _ _), Lib.hid (Below.refl _ _)⟩
  case round =>
    obtain ⟨m, l, A8, c8, rfl, rfl, HJ, HR, HB⟩ := hrel
    have HBw := Lib.hid (HB1.out.trans (HB.out.mono HB1.out.size))
    cases gk with
    | zero => have := HJ.out; omega
    | succ k =>
      by_cases hlt : l < n
      · have HJ' := Lib.hid (show l = 16 * m ∧ m ≤ 4096 ∧ 16 * m < n ∧ 4097 < (k + 1) + m from by have := HJ.out; have := HNn.out; omega)
        have y0 : (l : Int) < (n : Int) := by omega
        have y1 : decide ((l : Int) < (n : Int)) = true := decide_eq_true y0
        have y2 : decide (l < n) = true := decide_eq_true hlt
        clear hlt HJ
        go_wp2_with fail
        obtain ⟨wo, rfl⟩ : ∃ wo : World, wo = wr := ⟨_, rfl⟩
        go_loopg [10, 11, 13] 9 (fun g v10 v11 v13 w' => ∃ i q : Nat, v13 = .int .i64 (i : Int) ∧ v11 = .int .u64 (q : Int) ∧ Hid (i ≤ 8 ∧ 8 < g + i) ∧ Hid (N / 256 ^ i = q) ∧ Hid ((Kd.int .u8).R 5 w' wo.heap.size (fun _ => True) v10 (nat ((be8 N).drop (8 - i)))) ∧ Hid (Below wo.heap.size wo w'))
        case atStart => exact ⟨0, N, rfl, rfl, Lib.hid ⟨by omega, by omega⟩, Lib.hid (by rw [Nat.pow_zero, Nat.div_one]), Lib.hid (by rw [HDr.out]; exact Kd.R_nil _ _ _ _ _), Lib.hid (Below.refl _ _)⟩
        case round =>
          obtain ⟨i, q, rfl, rfl, HQ, HE, HR9, HBo⟩ := hrel
          cases gk with
          | zero => have := HQ.out; omega
          | succ k2 =>
            have hqb : q < 18446744073709551616 := by have := HE.out; have h1 := HNn.out.1; have := Nat.div_le_self N (256 ^ i); omega
            by_cases hlt : i < 8
            · have HQ' := Lib.hid (show i < 8 ∧ 8 < (k2 + 1) + i from ⟨hlt, HQ.out.2⟩)
              obtain ⟨d, hd⟩ : ∃ d, q % 256 = d := ⟨_, rfl⟩
              obtain ⟨q2, hq2⟩ : ∃ d, q / 256 = d := ⟨_, rfl⟩
              have HDx := Lib.hid (be8_drop hlt HE.out hd)
              have HE2 := Lib.hid (show N / 256 ^ (i + 1) = q2 from by rw [Nat.pow_succ, ← Nat.div_div_eq_div_mul, HE.out, hq2])
              have e1 : (q : Int) % 256 = (d : Int) := by omega
              have e2 : (q : Int) / 256 = (q2 : Int) := by omega
              have e3 : (q : Int) < 18446744073709551616 := by omega
              have e4 : (0 : Int) ≤ (q : Int) := by omega
              have e5 : (d : Int) < 256 := by omega
              have e6 : (0 : Int) ≤ (d : Int) := by omega
              have e7 : (i : Int) < 8 := by omega
              obtain ⟨A9, c9, hv9, hc9, hC9⟩ := Kd.R_reads HR9.out
              obtain ⟨n9, hn9⟩ : ∃ n, (nat ((be8 N).drop (8 - i))).length = n := ⟨_, rfl⟩
              rw [hn9] at hv9 hC9
              subst hv9
              have HC9 := Lib.hid hC9
              have HL9 := Lib.hid (show n9 ≤ 8 from by rw [← hn9, nat_length, List.length_drop, be8_len]; omega)
              clear hlt HQ hqb hd hq2 hc9 hC9 hn9
              generalize nat ((be8 N).drop (8 - i)) = X at *
              go_wp2_with (at_builtin; refine appn (w0 := wr.alloc (.cells #[.int .u8 (d : Int)] 5)) .u8 wo.heap.size (.tmp 30) (.tmp 31) 41 5 1 rfl rfl Try.underlying41 info_u8 (by decide) (.slice (some ⟨wr.heap.size, 0, none⟩) 1 1) [(d : Int)] X A9 n9 c9 rfl rfl (H.ownK (l := [d]) (AB.mk wr .u8 5 [d]) HBo.out.size (show 1 ≤ maxLen by decide)) (Kd.C_alloc HC9.out _) (Below.refl _ _) (Nat.le_trans HBo.out.size (by simp)) (by have := HL9.out; simp; omega) ?_; intro v5 w5 ho5 hb5 hg5; (have HO5 := Lib.hid ho5); (have HG5 := Lib.hid hg5); clear ho5 hb5 hg5)
              have h5 := below_new (show (wr.alloc _).grownBy w5 (some wr.heap.size) from HG5.out)
              have HB55 := Lib.hid (HBo.out.trans (h5.1.mono HBo.out.size))
              clear HG5 h5
              go_roundg k2
              case measure => have := HQ'.out; omega
              case rel => exact ⟨i + 1, q2, by go_num, rfl, Lib.hid (by have := HQ'.out; omega), HE2, Lib.hid (by rw [HDx.out]; exact HO5.out), HB55⟩
            · obtain rfl : i = 8 := by have := HQ.out; omega
              clear hlt HQ HE hqb
              obtain ⟨A9, c9, hv9, hc9, hC9⟩ := Kd.R_reads HR9.out
              rw [show 8 - 8 = 0 from rfl, List.drop_zero, nat_length, be8_len] at hv9
              subst hv9
              have HRb := Lib.hid (show (Kd.int .u8).R 5 wr wo.heap.size (fun _ => True) (.slice A9 8 c9) (nat (be8 N)) from by have := HR9.out; rwa [show 8 - 8 = 0 from rfl, List.drop_zero] at this)
              obtain ⟨d4, hd4⟩ : ∃ d, m / 16777216 = d := ⟨_, rfl⟩
              obtain ⟨m5, hm5⟩ : ∃ d, m / 65536 = d := ⟨_, rfl⟩
              obtain ⟨d5, hd5⟩ : ∃ d, m5 % 256 = d := ⟨_, rfl⟩
              obtain ⟨m6, hm6⟩ : ∃ d, m / 256 = d := ⟨_, rfl⟩
              obtain ⟨d6, hd6⟩ : ∃ d, m6 % 256 = d := ⟨_, rfl⟩
              obtain ⟨d7, hd7⟩ : ∃ d, m % 256 = d := ⟨_, rfl⟩
              have hmb : m < 16777216 := by have := HJ'.out; omega
              have hd40 : d4 = 0 := by omega
              have HCb := Lib.hid (show ctrB N m = be8 N ++ [0, 0, 0, 0, d4, d5, d6, d7] from by unfold ctrB; rw [be8_small hmb, hm5, hd5, hm6, hd6, hd7, hd40])
              have e1 : (m : Int) / 16777216 = (d4 : Int) := by omega
              have e2 : (m : Int) / 65536 = (m5 : Int) := by omega
              have e3 : (m5 : Int) % 256 = (d5 : Int) := by omega
              have e4 : (m : Int) / 256 = (m6 : Int) := by omega
              have e5 : (m6 : Int) % 256 = (d6 : Int) := by omega
              have e6 : (m : Int) % 256 = (d7 : Int) := by omega
              have f1 : (d4 : Int) < 256 := by omega
              have f2 : (d5 : Int) < 256 := by omega
              have f3 : (d6 : Int) < 256 := by omega
              have f4 : (d7 : Int) < 256 := by omega
              have f5 : (0 : Int) ≤ (m : Int) := by omega
              have f6 : (0 : Int) ≤ (m5 : Int) := by omega
              have f7 : (0 : Int) ≤ (m6 : Int) := by omega
              have f8 : (m : Int) ≤ 4096 := by have := HJ'.out; omega
              clear hc9 hC9 HR9 hd4 hm5 hd5 hm6 hd6 hd7 hmb hd40
              go_upto_region 14 with (at_builtin; refine appn (w0 := wo) .u8 wo.heap.size (.tmp 35) (.tmp 50) 41 5 1 rfl rfl Try.underlying41 info_u8 (by decide) (.slice A9 8 c9) (nat (be8 N)) (nat [0, 0, 0, 0, d4, d5, d6, d7]) (some ⟨wr.heap.size, 0, none⟩) 8 8 rfl rfl (Kd.R_below HRb.out ((Below.refl _ _).alloc (Nat.le_refl _) _)) (H.rowK (AB.mk wr .u8 5 [0, 0, 0, 0, d4, d5, d6, d7]) (show 8 ≤ maxLen by decide)) (HBo.out.alloc HBo.out.size _) (Nat.le_trans HBo.out.size (by simp)) (by rw [nat_length, be8_len]; decide) ?_; intro v6 w6 ho6 hb6 _; (have HO6 := Lib.hid ho6); (have HB6 := Lib.hid hb6); clear ho6 hb6)
              have ho6 := HO6.out
              rw [← nat_app, ← HCb.out] at ho6
              obtain ⟨A6, c6, hv6, hc6, hC6⟩ := Kd.R_reads ho6
              rw [nat_length, ctrB_len] at hv6 hC6
              subst hv6
              have hw6 : Below w.heap.size w w6 := HBw.out.trans (HB6.out.mono HBw.out.size)
              have h16 : Below w1.heap.size w1 w6 := HB.out.trans (HB6.out.mono HB.out.size)
              have HQ := Lib.hid (refturn_any key (ctrB N m) A A6 A7 c c6 c7 w6 (Kd.C_below HC.out hw6) HK.out.1 HK.out.2 hC6 (ctrB_len _ _) (ctrB_lt _ _) (Kd.C_below HBx.out h16))
              have HR6 := Lib.hid (Kd.R_below HR.out HB6.out)
              have HBw6 := Lib.hid hw6
              have HB16 := Lib.hid h16
              clear ho6 hc6 hC6 hw6 h16 HO6 HRb e1 e2 e3 e4 e5 e6 f1 f2 f3 f4 f6 f7 f8
              go_wp2_with fail
              refine HQ.out.mono ?_
              rintro e w9 ⟨A9b, c9b, rfl, hc9, hC9, hb9⟩
              have HC9 := Lib.hid hC9
              have HR9 := Lib.hid (Kd.R_below HR6.out hb9)
              have HB9 := Lib.hid (HBw6.out.trans (hb9.mono HBw6.out.size))
              have HB19 := Lib.hid (HB16.out.trans (hb9.mono HB16.out.size))
              clear hc9 hC9 hb9 HQ HR6 HBw6 HB16 HBo HB6
              have HXl := Lib.hid (show (nat (strN key N 0 m)).length = l from by rw [nat_length, HSl.out]; have := HJ'.out; omega)
              have HXn := Lib.hid (show nat (strN key N 0 (m + 1)) = nat (strN key N 0 m) ++ nat (turnP key (ctrB N m)) from by rw [HSn.out, nat_app, Nat.zero_add]; rfl)
              generalize nat (strN key N 0 m) = X at *
              go_wp2_with (at_builtin; refine appn (w0 := w1) .u8 w1.heap.size (.tmp 52) (.tmp 56) 41 5 1 rfl rfl Try.underlying41 info_u8 (by decide) (.slice A8 l c8) X (nat (turnP key (ctrB N m))) A9b 16 c9b rfl rfl HR9.out HC9.out HB19.out HB19.out.size (by rw [HXl.out]; have := HJ'.out; omega) ?_; intro v10 w10 ho10 hb10 hg10; (have HO10 := Lib.hid ho10); (have HB10 := Lib.hid hb10); clear ho10 hb10 hg10)
              have ho10 := HO10.out
              rw [← HXn.out] at ho10
              obtain ⟨A10, c10, hv10, hc10, hC10⟩ := Kd.R_reads ho10
              rw [nat_length, HSl.out, show 16 * (m + 1) = l + 16 from by have := HJ'.out; omega] at hv10
              subst hv10
              have HR10 := Lib.hid ho10
              clear ho10 hc10 hC10 HO10 HR9 HC9 HB9 HB19
              go_roundg k
              case measure => have := HJ'.out; omega
              case rel => exact ⟨m + 1, l + 16, A10, c10, by have := HJ'.out; (have h8 : (m : Int) ≤ 4096 := by omega); first | go_num | (unfold wrap64; omega) | (congr 1; unfold wrap64; omega), rfl, Lib.hid (by have := HJ'.out; have := HNn.out; omega), HR10, HB10⟩
      · have hml : n ≤ 16 * m := by have := HJ.out; omega
        have hct0 := HCt.out m hml
        rw [Nat.zero_add, List.drop_zero, Nat.mul_zero, Nat.add_zero] at hct0
        have hr := Kd.R_reads' HR.out
        rw [nat_length, HSl.out] at hr
        have hll : l = 16 * m := HJ.out.1
        obtain ⟨hct, hCt⟩ := cutT A8 l c8 (n : Int) n rfl (by omega) hr.2.1
        have hC8 : (Kd.int .u8).C wr A8 l (nat (strN key N 0 m)) := by have := hr.2.2; rwa [← hll] at this
        have hCn := hCt wr _ hC8
        rw [hct0] at hCn
        have HCn := Lib.hid hCn
        have y0 : ¬ (l : Int) < (n : Int) := by omega
        have y1 : decide ((l : Int) < (n : Int)) = false := decide_eq_false y0
        have y2 : decide (l < n) = false := decide_eq_false hlt
        have y3 : (n : Int) ≤ (l : Int) := by omega
        clear hlt HJ HR hml hct0 hr hll hC8 hCn hCt
        go_wp2_with fail
        go_ret
        exact ⟨A8, ⟨c8, rfl⟩, HCn.out, HBw.out⟩
set_option maxRecDepth 100000 in
set_option maxHeartbeats 6400000 in
theorem rhide_any (key : List Nat) (N : Nat) (b : List Nat) (A B : Option Addr) (c cb : Nat) (w : World) (hC : (Kd.int .u8).C w A 16 (nat key)) (hk : key.length = 16) (hk8 : ∀ x ∈ key, x < 256) (hN : N < 18446744073709551616) (hB : (Kd.int .u8).C w B b.length (nat b)) (hb8 : ∀ x ∈ b, x < 256) (hn : b.length ≤ 65536) :
    Calls Try.prog 55 #[.slice A 16 c, .int .u64 (N : Int), .slice B b.length cb] w fun e w' => ∃ v, e = .returned v ∧ (Kd.int .u8).R 5 w' w.heap.size (fun _ => True) v (nat (hideN key N b)) ∧ Below w.heap.size w w' := by
  have HQ := Lib.hid (rstream_any key N b.length A c w hC hk hk8 hN hn)
  have HB := Lib.hid hB
  have HB8 := Lib.hid hb8
  have HS8 := Lib.hid (fun j => sb_lt hk8 N j)
  have HAl := Lib.hid (atN_len key N 0 b.length)
  have HAg := Lib.hid (fun j (h : j < b.length) => atN_get key N 0 h)
  have HHl := Lib.hid (hideN_len key N b)
  have HHg := Lib.hid (fun j (h : j < b.length) => hideN_get key N b h)
  have z1 : (b.length : Int) ≤ 65536 := by omega
  clear hC hk hk8 hN hB hb8 hn
  go_enter Try.func55, Try.ntmps55
  go_wp2_with fail
  refine HQ.out.mono ?_
  rintro e w1 ⟨A1, c1, rfl, hc1, hb1⟩
  have HC1 := Lib.hid (show (Kd.int .u8).C w1 A1 (atN key N 0 b.length).length (nat (atN key N 0 b.length)) from by rw [HAl.out]; exact hc1)
  have HB1 := Lib.hid hb1
  clear hc1 hb1 HQ
  go_wp2_with fail
  go_loopg [8, 9] (b.length + 1) (fun g v8 v9 w' => ∃ i : Nat, v9 = .int .i64 (i : Int) ∧ Hid (i ≤ b.length ∧ b.length < g + i) ∧ Hid ((Kd.int .u8).R 5 w' w1.heap.size (fun _ => True) v8 (nat ((hideN key N b).take i))) ∧ Hid (Below w1.heap.size w1 w'))
  case atStart => exact ⟨0, rfl, Lib.hid ⟨by omega, by omega⟩, Lib.hid (Kd.R_nil _ _ _ _ _), Lib.hid (Below.refl _ _)⟩
  case round =>
    obtain ⟨i, rfl, HJ, HR, HBl⟩ := hrel
    have HBw := Lib.hid (HB1.out.trans (HBl.out.mono HB1.out.size))
    cases gk with
    | zero => have := HJ.out; omega
    | succ k =>
      by_cases hlt : i < b.length
      · have HJ' := Lib.hid (show i < b.length ∧ b.length < (k + 1) + i from ⟨hlt, HJ.out.2⟩)
        obtain ⟨b1, o1, rfl, hb1, hc1⟩ := B_at (Kd.C_below HB.out HBw.out) (by omega)
        obtain ⟨b2, o2, rfl, hb2, hc2⟩ := B_at (Kd.C_below HC1.out HBl.out) (by rw [HAl.out]; omega)
        have p1 := hc1 i hlt
        have p2 := hc2 i (by rw [HAl.out]; exact hlt)
        rw [HAg.out i hlt, Nat.zero_add] at p2
        have hx := getD_lt hlt HB8.out
        have hy := HS8.out i
        have hh := HHg.out i hlt
        have hsn := nat_snoc (l := hideN key N b) (j := i) (by rw [HHl.out]; exact hlt)
        obtain ⟨x, hxx⟩ : ∃ x, b.getD i 0 = x := ⟨_, rfl⟩
        obtain ⟨y, hyy⟩ : ∃ x, sb key N i = x := ⟨_, rfl⟩
        rw [hxx] at p1 hx hh
        rw [hyy] at p2 hy hh
        obtain ⟨z, hz⟩ : ∃ z, x ^^^ y = z := ⟨_, rfl⟩
        rw [hz] at hh
        rw [hh] at hsn
        have e1 : bits .xor .u8 (x : Int) (y : Int) = (z : Int) := by rw [← hz]; exact xor_u8 x y hx hy
        have q1 := gw hb1 p1
        have q2 := gw hb2 p2
        have HSn := Lib.hid hsn
        have HLn := Lib.hid (show (nat ((hideN key N b).take i)).length = i from by rw [nat_length, List.length_take, HHl.out]; omega)
        have y0 : (i : Int) < (b.length : Int) := by omega
        have y1 : (0 : Int) ≤ (i : Int) := by omega
        have HRd := Lib.hid (Kd.R_below HR.out (stay0 wr))
        have HBd := Lib.hid (show Below w1.heap.size w1 wr.drew from HBl.out.drew)
        clear hlt HJ hb1 hb2 hc1 hc2 p1 p2 hx hy hh hxx hyy hz hsn HR
        generalize nat ((hideN key N b).take i) = X at *
        go_wp2_with fail
        refine Q.wp_region_segsG none [([0, 1, 2, 3, 4, 5, 6, 7, 8, 9], some 10)] [] 11 [12] (by kernel_rfl) (by kernel_rfl) (by kernel_rfl) (by kernel_rfl) ?_
        dsimp only [Q.wpSegsG, Q.picks, Q.pick]
        repeat (go_big_quiet_step (fail))
        refine wpQuiet_nil ?_
        clear q1 q2 e1
        go_wp2_with fail
        refine Q.ev_keep ((Below.refl _ _).alloc (Nat.le_refl _) _) (Nat.le_refl _) ?_
        refine wpQuiet_nil ?_
        refine app1 (w0 := w1) .u8 w1.heap.size (.tmp 21) (.tmp 31) 41 5 1 rfl rfl Try.underlying41 info_u8 (by decide) u8 X (z : Int) rfl rfl HRd.out HBd.out HBd.out.size (by rw [HLn.out]; omega) ?_
        intro v8 w8 hr8 hb8 _
        have HR8 := Lib.hid hr8
        have HB8n := Lib.hid hb8
        clear hr8 hb8
        go_wp2_with fail
        refine NoPanic.normal ?_
        go_wp2_with fail
        go_roundg k
        case measure => have := HJ'.out; omega
        case rel => exact ⟨i + 1, by go_num, Lib.hid (by have := HJ'.out; omega), Lib.hid (by rw [← HSn.out]; exact HR8.out), HB8n⟩
      · obtain rfl : i = b.length := by have := HJ.out; omega
        have HRe := Lib.hid (show (Kd.int .u8).R 5 wr w.heap.size (fun _ => True) u8 (nat (hideN key N b)) from by have := Kd.R_lower HR.out HB1.out.size; rwa [List.take_of_length_le (by rw [HHl.out]; exact Nat.le_refl _)] at this)
        clear hlt HJ HR
        go_wp2_with fail
        go_ret
        exact ⟨_, rfl, HRe.out, HBw.out⟩
end Go.Proofs.Ytblnclooobggnaa.A

namespace Go.Proofs.Ytblnclooobggnaa.H
open Go.RowKit Go.Proofs.Ytblnclooobggnaa.L Go.Proofs.Ytblnclooobggnaa.N Go.Proofs.YtblnclooobggnaaW.PrintWords

theorem w16_snoc {b : List Nat} {i y : Nat} (hi : i < 16) (h : wordN b (4 * i) = y) : nat ((w16 b).take (i + 1)) = nat ((w16 b).take i) ++ [(y : Int)] := by
  have h1 := nat_snoc (l := w16 b) (j := i) (by rw [w16_length]; exact hi)
  rw [← h1]
  have : (w16 b).getD i 0 = y := by
    unfold w16
    rw [List.getD_eq_getElem?_getD, List.getElem?_map, List.getElem?_range hi]
    exact h
  rw [this]
theorem extW_lt {l : List Nat} (h : ∀ x ∈ l, x < 4294967296) : ∀ n, ∀ x ∈ extW n l, x < 4294967296
  | 0 => h
  | n + 1 => fun x hx => by
    rw [extW, List.mem_append, List.mem_singleton] at hx
    rcases hx with hx | rfl
    · exact extW_lt h n x hx
    · exact add32_lt _ _
theorem words_rules (x y u v : Nat) (hx : x < 4294967296) (hy : y < 4294967296) : ∃ a1 a2 a3 a4 b1 b2 b3 : Nat, bits .xor .u32 ((rot x 7 : Nat) : Int) ((rot x 18 : Nat) : Int) = (a1 : Int) ∧ bits .xor .u32 (a1 : Int) ((x / 2 ^ 3 : Nat) : Int) = (a2 : Int) ∧ bits .xor .u32 ((rot y 17 : Nat) : Int) ((rot y 19 : Nat) : Int) = (a3 : Int) ∧ bits .xor .u32 (a3 : Int) ((y / 2 ^ 10 : Nat) : Int) = (a4 : Int) ∧ IntKind.u32.wrap ((u : Int) + (v : Int)) = (b1 : Int) ∧ IntKind.u32.wrap ((b1 : Int) + (a2 : Int)) = (b2 : Int) ∧ IntKind.u32.wrap ((b2 : Int) + (a4 : Int)) = (b3 : Int) ∧ b3 = add32 (add32 (add32 u v) (sg0 x)) (sg1 y) :=
  ⟨_, _, _, _, _, _, _, xor_u32 _ _ (rot_lt (by decide) hx) (rot_lt (by decide) hx), xor_u32 _ _ (xor_lt32 (rot_lt (by decide) hx) (rot_lt (by decide) hx)) (Nat.lt_of_le_of_lt (Nat.div_le_self _ _) hx), xor_u32 _ _ (rot_lt (by decide) hy) (rot_lt (by decide) hy), xor_u32 _ _ (xor_lt32 (rot_lt (by decide) hy) (rot_lt (by decide) hy)) (Nat.lt_of_le_of_lt (Nat.div_le_self _ _) hy), add_rule _ _, add_rule _ _, add_rule _ _, rfl⟩
set_option maxRecDepth 100000 in
set_option maxHeartbeats 6400000 in
theorem rwords_any (b : List Nat) (A : Option Addr) (c : Nat) (w : World) (hC : (Kd.int .u8).C w A 64 (nat b)) (hb : b.length = 64) (hb8 : ∀ x ∈ b, x < 256) :
    Calls Try.prog 90 #[.slice A 64 c] w fun e w' => ∃ v, e = .returned v ∧ (Kd.int .u32).R 45 w' w.heap.size (fun _ => True) v (nat (rW b)) ∧ Below w.heap.size w w' := by
  rw [← hb] at hC
  obtain ⟨bk, off, rfl, hbk, hcell⟩ := B_at hC (by omega)
  have HC := Lib.hid (fun j (hj : j < 64) W (hW : Below w.heap.size w W) => pw_cell_below hW (hcell j (by omega)))
  have HB8 := Lib.hid (fun j (hj : j < 64) => getD_lt (show j < b.length by omega) hb8)
  have HLt := Lib.hid hbk
  have HW8 := Lib.hid (extW_lt (w16_lt hb8))
  clear hC hbk hcell hb hb8
  go_enter Try.func90, Try.ntmps90
  go_wp2_with fail
  go_loopg [3, 4] 17 (fun g v3 v4 w' => ∃ i : Nat, v4 = .int .i64 (i : Int) ∧ Hid (i ≤ 16 ∧ 16 < g + i) ∧ Hid ((Kd.int .u32).R 45 w' w.heap.size (fun _ => True) v3 (nat ((w16 b).take i))) ∧ Hid (Below w.heap.size w w'))
  case atStart => exact ⟨0, rfl, Lib.hid ⟨by omega, by omega⟩, Lib.hid (Kd.R_nil _ _ _ _ _), Lib.hid (Below.refl _ _)⟩
  case round =>
    obtain ⟨i, rfl, HJ, HR, HB⟩ := hrel
    cases gk with
    | zero => have := HJ.out; omega
    | succ k =>
      by_cases hlt : i < 16
      · have HJ' := Lib.hid (show i < 16 ∧ 16 < (k + 1) + i from ⟨hlt, HJ.out.2⟩)
        have hsz : bk < wr.heap.size := Nat.lt_of_lt_of_le HLt.out HB.out.size
        have p0 := HC.out (4 * i) (by omega) wr HB.out
        have l0 := HB8.out (4 * i) (by omega)
        have p1 := HC.out (4 * i + 1) (by omega) wr HB.out
        have l1 := HB8.out (4 * i + 1) (by omega)
        have p2 := HC.out (4 * i + 2) (by omega) wr HB.out
        have l2 := HB8.out (4 * i + 2) (by omega)
        have p3 := HC.out (4 * i + 3) (by omega) wr HB.out
        have l3 := HB8.out (4 * i + 3) (by omega)
        have hw : wordN b (4 * i) = b.getD (4 * i) 0 * 16777216 + b.getD (4 * i + 1) 0 * 65536 + b.getD (4 * i + 2) 0 * 256 + b.getD (4 * i + 3) 0 := rfl
        obtain ⟨x0, hx0⟩ : ∃ x, b.getD (4 * i) 0 = x := ⟨_, rfl⟩
        rw [hx0] at p0 l0 hw
        obtain ⟨x1, hx1⟩ : ∃ x, b.getD (4 * i + 1) 0 = x := ⟨_, rfl⟩
        rw [hx1] at p1 l1 hw
        obtain ⟨x2, hx2⟩ : ∃ x, b.getD (4 * i + 2) 0 = x := ⟨_, rfl⟩
        rw [hx2] at p2 l2 hw
        obtain ⟨x3, hx3⟩ : ∃ x, b.getD (4 * i + 3) 0 = x := ⟨_, rfl⟩
        rw [hx3] at p3 l3 hw
        obtain ⟨j3, hj3⟩ : ∃ x, 4 * i + 3 = x := ⟨_, rfl⟩
        rw [hj3] at p3
        obtain ⟨j2, hj2⟩ : ∃ x, 4 * i + 2 = x := ⟨_, rfl⟩
        rw [hj2] at p2
        obtain ⟨j1, hj1⟩ : ∃ x, 4 * i + 1 = x := ⟨_, rfl⟩
        rw [hj1] at p1
        obtain ⟨j0, hj0⟩ : ∃ x, 4 * i = x := ⟨_, rfl⟩
        rw [hj0] at p0
        obtain ⟨y0, hy0⟩ : ∃ y, 16777216 * x0 = y := ⟨_, rfl⟩
        obtain ⟨y1, hy1⟩ : ∃ y, 65536 * x1 = y := ⟨_, rfl⟩
        obtain ⟨y2, hy2⟩ : ∃ y, 256 * x2 = y := ⟨_, rfl⟩
        obtain ⟨t1, ht1⟩ : ∃ y, y0 + y1 = y := ⟨_, rfl⟩
        obtain ⟨t2, ht2⟩ : ∃ y, t1 + y2 = y := ⟨_, rfl⟩
        obtain ⟨t3, ht3⟩ : ∃ y, t2 + x3 = y := ⟨_, rfl⟩
        have HSn := Lib.hid (w16_snoc (b := b) (y := t3) hlt (by omega))
        have e0 : (16777216 : Int) * (x0 : Int) = (y0 : Int) := by omega
        have e1 : (65536 : Int) * (x1 : Int) = (y1 : Int) := by omega
        have e2 : (256 : Int) * (x2 : Int) = (y2 : Int) := by omega
        have e3 : (y0 : Int) + (y1 : Int) = (t1 : Int) := by omega
        have e4 : (t1 : Int) + (y2 : Int) = (t2 : Int) := by omega
        have e5 : (t2 : Int) + (x3 : Int) = (t3 : Int) := by omega
        have m0 : (4 : Int) * (i : Int) = (j0 : Int) := by omega
        have m1 : (j0 : Int) + 1 = (j1 : Int) := by omega
        have m2 : (j0 : Int) + 2 = (j2 : Int) := by omega
        have m3 : (j0 : Int) + 3 = (j3 : Int) := by omega
        have by0 : (y0 : Int) ≤ 4278190080 := by omega
        have by1 : (y1 : Int) ≤ 16711680 := by omega
        have by2 : (y2 : Int) ≤ 65280 := by omega
        have bt1 : (t1 : Int) ≤ 4294901760 := by omega
        have bt2 : (t2 : Int) ≤ 4294967040 := by omega
        have bt3 : (t3 : Int) ≤ 4294967295 := by omega
        have bx0 : (x0 : Int) ≤ 255 := by omega
        have bx1 : (x1 : Int) ≤ 255 := by omega
        have bx2 : (x2 : Int) ≤ 255 := by omega
        have bx3 : (x3 : Int) ≤ 255 := by omega
        have r0 : (j0 : Int) < 64 := by omega
        have s0 : (0 : Int) ≤ (j0 : Int) := by omega
        have q0 := gw hsz p0
        have r1 : (j1 : Int) < 64 := by omega
        have s1 : (0 : Int) ≤ (j1 : Int) := by omega
        have q1 := gw hsz p1
        have r2 : (j2 : Int) < 64 := by omega
        have s2 : (0 : Int) ≤ (j2 : Int) := by omega
        have q2 := gw hsz p2
        have r3 : (j3 : Int) < 64 := by omega
        have s3 : (0 : Int) ≤ (j3 : Int) := by omega
        have q3 := gw hsz p3
        have z0 : (i : Int) < 16 := by omega
        have HRd := Lib.hid (Kd.R_below HR.out (stay0 wr))
        have HBd := Lib.hid (show Below w.heap.size w wr.drew from HB.out.drew)
        have HLn := Lib.hid (show (nat ((w16 b).take i)).length ≤ 16 from by rw [nat_length, List.length_take, w16_length]; omega)
        clear hlt HJ hsz p0 p1 p2 p3 l0 l1 l2 l3 hw hx0 hx1 hx2 hx3 hj0 hj1 hj2 hj3 hy0 hy1 hy2 ht1 ht2 ht3
        generalize nat ((w16 b).take i) = X at *
        go_wp2_with fail
        refine Q.wp_region_segsG none [([0, 1, 2, 3, 4, 5, 6, 7, 8, 9, 10, 11, 12, 13, 14, 15, 16, 17, 18, 19, 20, 21, 22, 23, 24, 25, 26, 27, 28, 29, 30, 31, 32, 33], some 34)] [] 35 [36] (by kernel_rfl) (by kernel_rfl) (by kernel_rfl) (by kernel_rfl) ?_
        dsimp only [Q.wpSegsG, Q.picks, Q.pick]
        repeat (go_big_quiet_step (fail))
        refine wpQuiet_nil ?_
        clear q0 q1 q2 q3 e0 e1 e2 e3 e4 e5 m0 m1 m2 m3
        go_wp2_with fail
        refine Q.ev_keep ((Below.refl _ _).alloc (Nat.le_refl _) _) (Nat.le_refl _) ?_
        refine wpQuiet_nil ?_
        refine app1 (w0 := w) .u32 w.heap.size (.tmp 12) (.tmp 46) 112 45 4 rfl rfl Try.underlying112 info_w32 (by decide) u3 X (t3 : Int) rfl rfl HRd.out HBd.out HBd.out.size (by have := HLn.out; omega) ?_
        intro v8 w8 hr8 hb8 _
        have HR8 := Lib.hid hr8
        have HB8n := Lib.hid hb8
        clear hr8 hb8
        go_wp2_with fail
        refine NoPanic.normal ?_
        go_wp2_with fail
        go_roundg k
        case measure => have := HJ'.out; omega
        case rel => exact ⟨i + 1, by go_num, Lib.hid (by have := HJ'.out; omega), Lib.hid (by rw [HSn.out]; exact HR8.out), HB8n⟩
      · obtain rfl : i = 16 := by have := HJ.out; omega
        have HR0 := Lib.hid (show (Kd.int .u32).R 45 wr w.heap.size (fun _ => True) u3 (nat (extW 0 (w16 b))) from by have := HR.out; rwa [List.take_of_length_le (by rw [w16_length]; exact Nat.le_refl _)] at this)
        clear hlt HJ HR
        go_wp2_with fail
        go_loopg [3, 5] 49 (fun g v3 v5 w' => ∃ n m : Nat, v5 = .int .i64 (m : Int) ∧ Hid (m = 16 + n ∧ n ≤ 48 ∧ 48 < g + n) ∧ Hid ((Kd.int .u32).R 45 w' w.heap.size (fun _ => True) v3 (nat (extW n (w16 b)))) ∧ Hid (Below w.heap.size w w'))
        case atStart => exact ⟨0, 16, rfl, Lib.hid ⟨by omega, by omega, by omega⟩, HR0, HB⟩
        case round =>
          obtain ⟨n, m, rfl, HJ, HR, HB⟩ := hrel
          clear HR0
          cases gk with
          | zero => have := HJ.out; omega
          | succ k =>
            by_cases hlt : n < 48
            · have HJ' := Lib.hid (show m = 16 + n ∧ n < 48 ∧ 48 < (k + 1) + n from ⟨HJ.out.1, hlt, HJ.out.2.2⟩)
              have hel := extW_length (w16_length b) n
              obtain ⟨g, cap, rfl, hcap, hgB, hg⟩ := R_openK HR.out (by omega)
              have pa := (R_atK HR.out (j := n) (by omega)).1
              have la := getD_lt (show n < (extW n (w16 b)).length by omega) (HW8.out n)
              have pc := (R_atK HR.out (j := n + 9) (by omega)).1
              have lc := getD_lt (show n + 9 < (extW n (w16 b)).length by omega) (HW8.out n)
              have px := (R_atK HR.out (j := n + 1) (by omega)).1
              have lx := getD_lt (show n + 1 < (extW n (w16 b)).length by omega) (HW8.out n)
              have py := (R_atK HR.out (j := n + 14) (by omega)).1
              have ly := getD_lt (show n + 14 < (extW n (w16 b)).length by omega) (HW8.out n)
              have hwx : extW (n + 1) (w16 b) = extW n (w16 b) ++ [add32 (add32 (add32 ((extW n (w16 b)).getD n 0) ((extW n (w16 b)).getD (n + 9) 0)) (sg0 ((extW n (w16 b)).getD (n + 1) 0))) (sg1 ((extW n (w16 b)).getD (n + 14) 0))] := by
                rw [extW_succ]
                unfold wx
                rw [show 16 + n - 16 = n from by omega, show 16 + n - 7 = n + 9 from by omega, show 16 + n - 15 = n + 1 from by omega, show 16 + n - 2 = n + 14 from by omega]
              obtain ⟨va, hva⟩ : ∃ x, (extW n (w16 b)).getD (n) 0 = x := ⟨_, rfl⟩
              rw [hva] at pa la hwx
              obtain ⟨vc, hvc⟩ : ∃ x, (extW n (w16 b)).getD (n + 9) 0 = x := ⟨_, rfl⟩
              rw [hvc] at pc lc hwx
              obtain ⟨vx, hvx⟩ : ∃ x, (extW n (w16 b)).getD (n + 1) 0 = x := ⟨_, rfl⟩
              rw [hvx] at px lx hwx
              obtain ⟨vy, hvy⟩ : ∃ x, (extW n (w16 b)).getD (n + 14) 0 = x := ⟨_, rfl⟩
              rw [hvy] at py ly hwx
              obtain ⟨a1, a2, a3, a4, b1, b2, b3, e1, e2, e3, e4, e5, e6, e7, he⟩ := words_rules vx vy va vc lx ly
              rw [← he] at hwx
              have HT7 := Lib.hid (fun W => rturn_any vx 7 W lx (by decide))
              have HT18 := Lib.hid (fun W => rturn_any vx 18 W lx (by decide))
              have HD3 := Lib.hid (fun W => rdown_any vx 3 W lx (by decide))
              have HT17 := Lib.hid (fun W => rturn_any vy 17 W ly (by decide))
              have HT19 := Lib.hid (fun W => rturn_any vy 19 W ly (by decide))
              have HD10 := Lib.hid (fun W => rdown_any vy 10 W ly (by decide))
              generalize rot vx 7 = f1 at e1 e2 e3 e4 HT7 HT18 HD3 HT17 HT19 HD10
              generalize rot vx 18 = f2 at e1 e2 e3 e4 HT7 HT18 HD3 HT17 HT19 HD10
              generalize vx / 2 ^ 3 = f3 at e1 e2 e3 e4 HT7 HT18 HD3 HT17 HT19 HD10
              generalize rot vy 17 = f4 at e1 e2 e3 e4 HT7 HT18 HD3 HT17 HT19 HD10
              generalize rot vy 19 = f5 at e1 e2 e3 e4 HT7 HT18 HD3 HT17 HT19 HD10
              generalize vy / 2 ^ 10 = f6 at e1 e2 e3 e4 HT7 HT18 HD3 HT17 HT19 HD10
              obtain ⟨n14, hn14⟩ : ∃ x, n + 14 = x := ⟨_, rfl⟩
              rw [hn14] at py
              obtain ⟨n9, hn9⟩ : ∃ x, n + 9 = x := ⟨_, rfl⟩
              rw [hn9] at pc
              obtain ⟨n1, hn1⟩ : ∃ x, n + 1 = x := ⟨_, rfl⟩
              rw [hn1] at px
              have HEx := Lib.hid (show nat (extW (n + 1) (w16 b)) = nat (extW n (w16 b)) ++ [(b3 : Int)] from by rw [hwx, nat_app]; rfl)
              have HLn := Lib.hid (show (nat (extW n (w16 b))).length ≤ 64 from by rw [nat_length]; omega)
              have m0 : (m : Int) - 16 = (n : Int) := by have := HJ'.out; omega
              have m1 : (m : Int) - 15 = (n1 : Int) := by have := HJ'.out; omega
              have m2 : (m : Int) - 2 = (n14 : Int) := by have := HJ'.out; omega
              have m3 : (m : Int) - 7 = (n9 : Int) := by have := HJ'.out; omega
              obtain ⟨ln, hln⟩ : ∃ x, (extW n (w16 b)).length = x := ⟨_, rfl⟩
              rw [hln] at HR ⊢
              have z0 : (m : Int) < 64 := by have := HJ'.out; omega
              have z1 : (0 : Int) ≤ (n : Int) := by omega
              have z2 : (0 : Int) ≤ (n1 : Int) := by omega
              have z3 : (0 : Int) ≤ (n9 : Int) := by omega
              have z4 : (0 : Int) ≤ (n14 : Int) := by omega
              have z5 : (n : Int) < (ln : Int) := by omega
              have z6 : (n1 : Int) < (ln : Int) := by omega
              have z7 : (n9 : Int) < (ln : Int) := by omega
              have z8 : (n14 : Int) < (ln : Int) := by omega
              have z9 : (16 : Int) ≤ (m : Int) := by have := HJ'.out; omega
              have qx := gw hg px
              have qy := gw hg py
              have HPa := Lib.hid pa
              have HPc := Lib.hid pc
              have HG := Lib.hid hg
              clear hlt HJ hel hcap hgB hva hvc hvx hvy la lc lx ly hwx he hn14 hn9 hn1 hln pa pc px py hg
              generalize nat (extW n (w16 b)) = X at *
              go_wp2_with fail
              refine Q.wp_region_segs none [([0, 1, 2, 3, 4, 5, 6, 7, 8, 9, 10, 11], none)] (by kernel_rfl) (by kernel_rfl) (by kernel_rfl) (by kernel_rfl) ?_
              dsimp only [Q.wpSegs, Q.picks, Q.pick]
              repeat (go_big_quiet_step (fail))
              refine wpQuiet_nil ?_
              clear qx qy m1 m2
              refine NoPanic.normal ?_
              refine exit_at fun W2 hW2 => ?_
              have hb2 : Below wr.heap.size wr W2 := by rw [hW2]; exact stay0 wr
              have hg2 : g < W2.heap.size := Nat.lt_of_lt_of_le HG.out hb2.size
              have qa := gw hg2 (pw_cell_below hb2 HPa.out)
              have qc := gw hg2 (pw_cell_below hb2 HPc.out)
              have HRd := Lib.hid (Kd.R_below (Kd.R_below HR.out hb2) (stay0 W2))
              have HBd := Lib.hid (show Below w.heap.size w W2.drew from (HB.out.trans (hb2.mono HB.out.size)).drew)
              clear hW2 hb2 hg2 HPa HPc HR HB
              go_wp2_with fail
              refine Q.wp_region_segsG none [([0, 1, 2, 3, 4, 5, 6, 7, 8, 9, 10, 11, 12, 14, 17, 21, 23, 26], some 13), ([], some 15), ([16], some 18), ([19, 20], some 22), ([], some 24), ([25], some 27), ([28, 29], some 30)] [] 31 [32] (by kernel_rfl) (by kernel_rfl) (by kernel_rfl) (by kernel_rfl) ?_
              dsimp only [Q.wpSegsG, Q.picks, Q.pick]
              repeat (go_big_quiet_step (fail))
              refine wpQuiet_nil ?_
              clear qa qc m0 m3
              go_wp2_with fail
              refine (HT7.out _).mono ?_
              rintro e w3 ⟨rfl, hw3⟩
              rw [hw3]
              clear hw3 w3 HT7
              go_wp2_with fail
              refine Q.ev_keep (Below.refl _ _) (Nat.le_refl _) ?_
              repeat (go_big_quiet_step (fail))
              refine wpQuiet_nil ?_
              go_wp2_with fail
              refine (HT18.out _).mono ?_
              rintro e w3 ⟨rfl, hw3⟩
              rw [hw3]
              clear hw3 w3 HT18
              go_wp2_with fail
              refine Q.ev_keep (Below.refl _ _) (Nat.le_refl _) ?_
              repeat (go_big_quiet_step (fail))
              refine wpQuiet_nil ?_
              go_wp2_with fail
              refine (HD3.out _).mono ?_
              rintro e w3 ⟨rfl, hw3⟩
              rw [hw3]
              clear hw3 w3 HD3
              go_wp2_with fail
              refine Q.ev_keep (Below.refl _ _) (Nat.le_refl _) ?_
              repeat (go_big_quiet_step (fail))
              refine wpQuiet_nil ?_
              go_wp2_with fail
              refine (HT17.out _).mono ?_
              rintro e w3 ⟨rfl, hw3⟩
              rw [hw3]
              clear hw3 w3 HT17
              go_wp2_with fail
              refine Q.ev_keep (Below.refl _ _) (Nat.le_refl _) ?_
              repeat (go_big_quiet_step (fail))
              refine wpQuiet_nil ?_
              go_wp2_with fail
              refine (HT19.out _).mono ?_
              rintro e w3 ⟨rfl, hw3⟩
              rw [hw3]
              clear hw3 w3 HT19
              go_wp2_with fail
              refine Q.ev_keep (Below.refl _ _) (Nat.le_refl _) ?_
              repeat (go_big_quiet_step (fail))
              refine wpQuiet_nil ?_
              go_wp2_with fail
              refine (HD10.out _).mono ?_
              rintro e w3 ⟨rfl, hw3⟩
              rw [hw3]
              clear hw3 w3 HD10
              go_wp2_with fail
              refine Q.ev_keep (Below.refl _ _) (Nat.le_refl _) ?_
              repeat (go_big_quiet_step (fail))
              refine wpQuiet_nil ?_
              go_wp2_with fail
              refine Q.ev_keep ((Below.refl _ _).alloc (Nat.le_refl _) _) (Nat.le_refl _) ?_
              refine wpQuiet_nil ?_
              refine app1 (w0 := w) .u32 w.heap.size (.tmp 62) (.tmp 92) 112 45 4 rfl rfl Try.underlying112 info_w32 (by decide) (.slice (some ⟨g, 0, none⟩) ln cap) X (b3 : Int) rfl rfl HRd.out HBd.out HBd.out.size (by have := HLn.out; omega) ?_
              intro v8 w8 hr8 hb8 _
              have HR8 := Lib.hid hr8
              have HB8n := Lib.hid hb8
              clear hr8 hb8 e1 e2 e3 e4 e5 e6 e7
              go_wp2_with fail
              refine NoPanic.normal ?_
              go_wp2_with fail
              go_roundg k
              case measure => have := HJ'.out; omega
              case rel => exact ⟨n + 1, m + 1, by go_num, Lib.hid (by have := HJ'.out; omega), Lib.hid (by rw [HEx.out]; exact HR8.out), HB8n⟩
            · obtain rfl : n = 48 := by have := HJ.out; omega
              obtain rfl : m = 64 := by have := HJ.out; omega
              clear hlt HJ
              go_wp2_with fail
              go_ret
              exact ⟨_, rfl, HR.out, HB.out⟩
end Go.Proofs.Ytblnclooobggnaa.H
