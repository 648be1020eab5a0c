/-
  keys: Ack; a sink's Take; what a stream or a sink that is nil, or that no call made, says.
-/
import Derived.Test.YtigbmbmngkmdlaaKb
namespace Go.Proofs.Ytigbmbmngkmdlaa.Ke
open Go.RowKit Go.Proofs.Ytigbmbmngkmdlaa.L Go.Proofs.YtigbmbmngkmdlaaW.PrintWords

/-- s[lo:] -/
theorem cutf {P : Program} (k kl : IntKind) (t e : TypeId) {i : TypeInfo} (ht : P.underlying t = some (.slice e)) (hi : P.info? e = some i) (hsz : i.size = 1) (A : Option Addr) (n c : Nat) (lo : Int) (n1 : Nat) (h0 : 0 ≤ lo) (h1 : lo + n1 = n) (hc : n ≤ c) :
    ∃ A' c', (∀ W : World, (Instr.slice t (.slice A n c) (some (.int kl lo)) none none).run P W = .ok (.slice A' n1 c') W) ∧ n1 ≤ c' ∧
      ∀ (W : World) (l : List Int), l.length = n → (Kd.int k).C W A n l → (Kd.int k).C W A' n1 (l.drop lo.toNat) ∧ (l.drop lo.toNat).length = n1 := by
  refine ⟨_, _, fun W => (cut_from t e kl ht hi 1 hsz A n c lo h0 (by omega) W).trans (by rw [show n - lo.toNat = n1 from by omega]), by omega, ?_⟩
  intro W l hl hC
  rw [← hl] at hC
  have h := Kd.C_mid (xs := l) (lo := lo.toNat) (hi := n) (c := c) hC (by omega) (by omega) (by omega)
  have hlen : (l.drop lo.toNat).length = n1 := by simp; omega
  rw [List.take_of_length_le (by omega), hlen] at h
  exact ⟨h, hlen⟩

set_option maxHeartbeats 800000 in
set_option maxRecDepth 100000 in
theorem ack_old (b : Nat) (n m : Int) (l : List Int) (w : World) (h : St b n l w) (hm : m < n) :
    Calls Try.prog 25 #[.pointer (some ⟨b, 0, none⟩), .int .u64 m] w fun e w' => e = .returned (.int .i64 23) ∧ w' = w := by
  obtain ⟨A, c, hb, hc, hC, hT⟩ := h
  obtain ⟨k0, k1, k2, _⟩ := cells_of hb
  have t1 : decide (m < n) = true := by simpa using hm
  clear hb hC hT hc hm
  go_enter Try.func25, Try.ntmps25
  go_wp2
  go_ret
  exact ⟨rfl, rfl⟩
set_option maxHeartbeats 800000 in
set_option maxRecDepth 100000 in
theorem ack_arg (b : Nat) (n m : Int) (l : List Int) (w : World) (h : St b n l w) (h0 : 0 ≤ n) (h1 : n + l.length < 18446744073709551616) (hm : n + l.length < m) :
    Calls Try.prog 25 #[.pointer (some ⟨b, 0, none⟩), .int .u64 m] w fun e w' => e = .returned (.int .i64 1) ∧ Below w.heap.size w w' := by
  have HC := Lib.hid (count_any b n l w h h0 h1)
  obtain ⟨A, c, hb, hc, hC, hT⟩ := h
  obtain ⟨k0, k1, k2, _⟩ := cells_of hb
  have t1 : decide (m < n) = false := by simp; omega
  have t2 : decide (n + (l.length : Int) < m) = true := by simpa using hm
  clear hb hC hT hc hm h0 h1
  go_enter Try.func25, Try.ntmps25
  go_wp2_with fail
  refine HC.out.mono ?_
  rintro e w1 ⟨rfl, hb1⟩
  have HB1 := Lib.hid hb1
  clear hb1
  go_wp2
  go_ret
  exact ⟨rfl, HB1.out⟩
set_option maxHeartbeats 1600000 in
set_option maxRecDepth 100000 in
theorem ack_okA (b : Nat) (n m : Int) (l : List Int) (A : Option Addr) (w : World) (h : StA b n l A w) (h0 : 0 ≤ n) (h1 : n + l.length < 18446744073709551616) (hm0 : n ≤ m) (hm1 : m ≤ n + l.length) (hl : l.length ≤ 512) :
    Calls Try.prog 25 #[.pointer (some ⟨b, 0, none⟩), .int .u64 m] w fun e w' => e = .returned (.int .i64 0) ∧ (∃ A', StA b m (l.drop (m - n).toNat) A' w' ∧ Fr w A A') ∧ w.grownBy w' (some b) := by
  have HCn := Lib.hid (count_any b n l w h.st h0 h1)
  obtain ⟨c, hb, hc, hC, hT⟩ := h
  obtain ⟨k0, k1, k2, _⟩ := cells_of hb
  have t1 : decide (m < n) = false := by simp; omega
  have t2 : decide (n + (l.length : Int) < m) = false := by simp; omega
  have s1 : IntKind.u64.wrap (m - n) = m - n := wraps_u64 _ (by omega) (by omega)
  obtain ⟨i0, hi0, hz0⟩ := info_of info_u8
  obtain ⟨A', c', hcut, hc', hread⟩ := cutf (P := Try.prog) .u8 .u64 25 5 Try.underlying25 hi0 hz0 A l.length c (m - n) (l.length - (m - n).toNat) (by omega) (by omega) hc
  have HRD := Lib.hid hread
  have HC := Lib.hid hC
  have HB := Lib.hid hb
  have HL := Lib.hid hl
  have HH := Lib.hid h0
  have HM := Lib.hid (show n ≤ m ∧ m ≤ n + l.length from ⟨hm0, hm1⟩)
  clear hb hC hT hc h1 hread hc' hm1 hl h0
  go_enter Try.func25, Try.ntmps25
  go_wp2_with fail
  refine HCn.out.mono ?_
  rintro e w1 ⟨rfl, hb1⟩
  have HB1 := Lib.hid hb1
  have HBb := Lib.hid ((hb1.block b (Array.getElem?_eq_some_iff.1 HB.out).1).trans HB.out)
  have HC1 := Lib.hid (Kd.C_drew (Kd.C_below HC.out hb1))
  clear hb1 k0 k1 k2 HCn
  have k1 := (cells_of HBb.out).2.1
  have k2 := (cells_of HBb.out).2.2.1
  have q1 : ∀ m : Q.GW w1.drew w1.heap.size none, m.w.cell? ⟨b, 1, none⟩ = some (.int .u64 n) := fun m => pw_cell_below (stay1 (stay0 w1) m.below) k1
  have q2 : ∀ m : Q.GW w1.drew w1.heap.size none, m.w.cell? ⟨b, 2, none⟩ = some (.slice A l.length c) := fun m => pw_cell_below (stay1 (stay0 w1) m.below) k2
  have z1 : (0 : Int) ≤ m - n := by omega
  go_wp2_with fail
  refine Q.wp_region_segsF none [([0, 1, 2, 3, 4, 5, 6, 7, 8, 9, 10, 11], some 12)] [13, 14] 15 (by kernel_rfl) (by kernel_rfl) (by kernel_rfl) (by kernel_rfl) ?_
  dsimp only [Q.wpSegsF, Q.picks, Q.pick]
  repeat (go_big_quiet_step (fail))
  refine wpQuiet_nil ?_
  go_wp2_with (go_at_call 61; refine (S.clone_n (l.drop (m - n).toNat) (l.length - (m - n).toNat) (HRD.out _ l rfl HC1.out).2 A' c' _ (HRD.out _ l rfl HC1.out).1 (by have := HL.out; omega)).mono ?_; rintro e w3 ⟨v3, rfl, ho3, hb3⟩; obtain ⟨A3, c3, rfl, hk3, hC3⟩ := Kd.R_reads ho3; (have HF3 := Lib.hid (show Fr w A A3 from .inr fun ad ha => Nat.le_trans HB1.out.size (Kd.R_base ho3 ad.block (by subst ha; rfl)))); (have HT3 := Lib.hid (Ty_R ho3)); (have HK3 := Lib.hid hk3); (have HC3 := Lib.hid hC3); (have HB3 := Lib.hid hb3); clear hb3 ho3 hk3 hC3)
  refine Q.ev_done HB3.out (Nat.le_refl _) ?_
  clear q1 q2 k1 k2 hcut z1
  have HBb3 := Lib.hid ((HB3.out.block b (Array.getElem?_eq_some_iff.1 HBb.out).1).trans HBb.out)
  repeat (go_big_quiet_step (fail))
  refine wpQuiet_nil ?_
  have r2 := (cells_of HBb3.out).2.2.1
  have g2 := (cells_of HBb3.out).2.2.2 2
  go_wp2
  refine NoPanic.normal ?_
  clear r2 g2
  have hld : (l.drop (m - n).toNat).length = l.length - (m - n).toNat := List.length_drop
  obtain ⟨w4, hw4⟩ : ∃ w4, w4 = w3.setCell ⟨b, 2, none⟩ (.slice A3 (l.length - (m - n).toNat) c3) := ⟨_, rfl⟩
  have HBb4 := Lib.hid (show w4.heap[b]? = some (.cells #[.bool true, .int .u64 n, .slice A3 (l.drop (m - n).toNat).length c3] 58 (0, 0)) from by rw [hw4, hld]; simpa using blk_set HBb3.out 2 (.slice A3 (l.length - (m - n).toNat) c3))
  clear hld
  have HG4 := Lib.hid (show w3.grownBy w4 (some b) from by rw [hw4]; exact gr_set w3 b 2 _)
  have r1 := (cells_of HBb4.out).2.1
  have g1 := (cells_of HBb4.out).2.2.2 1
  rw [← hw4]
  clear hw4
  go_wp2
  go_ret
  have hG5 := gr_set w4 b 1 (.int .u64 m)
  have hg := ((gr_below HB1.out (some b)).trans ((gr_drew w1 _).trans (gr_below HB3.out _))).trans (HG4.out.trans hG5)
  have hk4 := grown_keep HG4.out HT3.out HBb3.out (by decide)
  have hk5 := grown_keep hG5 (HT3.out.move hk4) HBb4.out (by decide)
  refine ⟨rfl, ⟨A3, ⟨c3, ?_, HK3.out, C_move (C_move HC3.out hk4) hk5, (HT3.out.move hk4).move hk5⟩, HF3.out⟩, hg⟩
  simpa using blk_set HBb4.out 1 (.int .u64 m)
theorem ack_ok (b : Nat) (n m : Int) (l : List Int) (w : World) (h : St b n l w) (h0 : 0 ≤ n) (h1 : n + l.length < 18446744073709551616) (hm0 : n ≤ m) (hm1 : m ≤ n + l.length) (hl : l.length ≤ 512) :
    Calls Try.prog 25 #[.pointer (some ⟨b, 0, none⟩), .int .u64 m] w fun e w' => e = .returned (.int .i64 0) ∧ St b m (l.drop (m - n).toNat) w' ∧ w.grownBy w' (some b) := by
  obtain ⟨A, hA⟩ := h
  exact (ack_okA b n m l A w hA h0 h1 hm0 hm1 hl).mono fun e w' ⟨h1, ⟨A', h2, _⟩, h3⟩ => ⟨h1, ⟨A', h2⟩, h3⟩

/-- what a sink that took kn hands back, the error, and how many it took then -/
def stR (kn fr : Int) (l : List Int) : List Int × Int × Int :=
  if (512 : Int) < l.length then ([], 2, kn) else if kn < fr then ([], 30, kn) else if (l.length : Int) ≤ kn - fr then ([], 0, kn) else (l.drop (kn - fr).toNat, 0, kn + (l.length - (kn - fr)))
set_option maxHeartbeats 1600000 in
set_option maxRecDepth 100000 in
theorem stake_any (k : Nat) (kn fr : Int) (l : List Int) (A : Option Addr) (c : Nat) (w : World) (h : Sk k kn w) (hC : (Kd.int .u8).C w A l.length l) (hc : l.length ≤ c) (h0 : 0 ≤ kn) (h1 : kn + 1024 < 18446744073709551616) (hf : 0 ≤ fr) :
    Calls Try.prog 31 #[.pointer (some ⟨k, 0, none⟩), .int .u64 fr, .slice A l.length c] w fun e w' => ∃ v0 : Value, e = .returned (.tuple #[v0, .int .i64 (stR kn fr l).2.1]) ∧ (Kd.int .u8).R 5 w' w.heap.size (fun _ => True) v0 (stR kn fr l).1 ∧ Sk k (stR kn fr l).2.2 w' ∧ w.grownBy w' (some k) := by
  obtain ⟨k0, k1, kf⟩ := cells_sk h
  have f1 := kf 1
  have HS := Lib.hid h
  obtain ⟨R, hR⟩ : ∃ R, stR kn fr l = R := ⟨_, rfl⟩
  rw [hR]
  have hR' := hR
  unfold stR at hR'
  clear h kf hR
  by_cases a1 : (512 : Int) < l.length
  · rw [if_pos a1] at hR'
    subst hR'
    have t1 : decide ((512 : Int) < (l.length : Int)) = true := by simpa using a1
    clear hC hc h0 h1 hf a1
    go_enter Try.func31, Try.ntmps31
    go_wp2
    go_ret2
    exact ⟨_, rfl, Kd.R_nil _ _ _ _ _, HS.out, World.grownBy.refl _ _⟩
  rw [if_neg a1] at hR'
  have t1 : decide ((512 : Int) < (l.length : Int)) = false := by simpa using a1
  by_cases a2 : kn < fr
  · rw [if_pos a2] at hR'
    subst hR'
    have t2 : decide (kn < fr) = true := by simpa using a2
    clear hC hc h0 h1 hf a1 a2
    go_enter Try.func31, Try.ntmps31
    go_wp2
    go_ret2
    exact ⟨_, rfl, Kd.R_nil _ _ _ _ _, HS.out, World.grownBy.refl _ _⟩
  rw [if_neg a2] at hR'
  have t2 : decide (kn < fr) = false := by simpa using a2
  have s1 : IntKind.u64.wrap (kn - fr) = kn - fr := wraps_u64 _ (by omega) (by omega)
  have s2 : IntKind.u64.wrap (l.length : Int) = l.length := wraps_u64 _ (by omega) (by omega)
  by_cases a3 : (l.length : Int) ≤ kn - fr
  · rw [if_pos a3] at hR'
    subst hR'
    have t3 : decide ((l.length : Int) ≤ kn - fr) = true := by simpa using a3
    clear hC hc h0 h1 hf a1 a2 a3
    go_enter Try.func31, Try.ntmps31
    go_wp2
    go_ret2
    exact ⟨_, rfl, Kd.R_nil _ _ _ _ _, HS.out, World.grownBy.refl _ _⟩
  rw [if_neg a3] at hR'
  have t3 : decide ((l.length : Int) ≤ kn - fr) = false := by simpa using a3
  obtain ⟨i0, hi0, hz0⟩ := info_of info_u8
  obtain ⟨A', c', hcut, hc', hread⟩ := cutf (P := Try.prog) .u8 .u64 25 5 Try.underlying25 hi0 hz0 A l.length c (kn - fr) (l.length - (kn - fr).toNat) (by omega) (by omega) hc
  obtain ⟨hC', hl'⟩ := hread w l rfl hC
  obtain ⟨m, hm⟩ : ∃ m, l.length - (kn - fr).toNat = m := ⟨_, rfl⟩
  rw [hm] at hcut hC' hl'
  have hmm : (l.length : Int) - (kn - fr) = m := by omega
  rw [hmm] at hR'
  have s3 : IntKind.u64.wrap (m : Int) = m := wraps_u64 _ (by omega) (by omega)
  have s4 : IntKind.u64.wrap (kn + (m : Int)) = kn + m := wraps_u64 _ (by omega) (by omega)
  have HCl := Lib.hid (S.clone_n (l.drop (kn - fr).toNat) m hl' A' c' w hC' (by omega))
  have HR' := Lib.hid hR'
  have HL' := Lib.hid hl'
  have z1 : (0 : Int) ≤ kn - fr := by omega
  clear hC hc h0 h1 hf a1 a2 a3 hread hc' hC' hl' hm hmm hR'
  go_enter Try.func31, Try.ntmps31
  go_wp2_with fail
  refine HCl.out.mono ?_
  rintro e w1 ⟨v1, rfl, ho1, hb1⟩
  obtain ⟨A1, c1, rfl, _, hC1⟩ := Kd.R_reads ho1
  have HO1 := Lib.hid ho1
  have HS1 := Lib.hid (HS.out.below hb1)
  have HB1 := Lib.hid hb1
  have q1 := (cells_sk HS1.out).2.1
  have q2 := (cells_sk HS1.out).2.2 1
  clear hb1 ho1 hC1 k0 k1 f1 HCl
  rw [HL'.out]
  go_wp2
  go_ret2
  rw [← HR'.out]
  have hs := HS1.out
  have ho := HO1.out
  rw [HL'.out] at ho
  refine ⟨.slice A1 m c1, rfl, Kd.R_set ho (show w1.heap[k]? = _ from hs) (by intro q hq; simp [show (Kd.int .u8).E = [] from rfl] at hq; subst hq; decide) 1 _, ?_, (gr_below HB1.out (some k)).trans (gr_set w1 k 1 _)⟩
  have := blk_set (show w1.heap[k]? = _ from hs) 1 (.int .u64 (kn + m))
  simpa [Sk] using this

set_option maxHeartbeats 400000 in
theorem nil_type (A : Option Addr) (m c : Nat) (w : World) : Calls Try.prog 24 #[.pointer none, .slice A m c] w fun e w' => e = .returned (.int .i64 6) ∧ w' = w := by
  go_enter Try.func24, Try.ntmps24
  go_wp2
  go_ret
  exact ⟨rfl, rfl⟩
set_option maxHeartbeats 400000 in
theorem nil_ack (m : Int) (w : World) : Calls Try.prog 25 #[.pointer none, .int .u64 m] w fun e w' => e = .returned (.int .i64 6) ∧ w' = w := by
  go_enter Try.func25, Try.ntmps25
  go_wp2
  go_ret
  exact ⟨rfl, rfl⟩
set_option maxHeartbeats 400000 in
theorem nil_pending (w : World) : Calls Try.prog 26 #[.pointer none] w fun e w' => e = .returned (.tuple #[.int .u64 0, .slice none 0 0]) ∧ w' = w := by
  go_enter Try.func26, Try.ntmps26
  go_wp2
  go_ret2
  exact ⟨rfl, rfl⟩
set_option maxHeartbeats 400000 in
theorem nil_count (w : World) : Calls Try.prog 27 #[.pointer none] w fun e w' => e = .returned (.int .u64 0) ∧ w' = w := by
  go_enter Try.func27, Try.ntmps27
  go_wp2
  go_ret
  exact ⟨rfl, rfl⟩
set_option maxHeartbeats 400000 in
theorem nil_scount (w : World) : Calls Try.prog 33 #[.pointer none] w fun e w' => e = .returned (.int .u64 0) ∧ w' = w := by
  go_enter Try.func33, Try.ntmps33
  go_wp2
  go_ret
  exact ⟨rfl, rfl⟩
set_option maxHeartbeats 400000 in
theorem nil_take (m : Int) (A : Option Addr) (n c : Nat) (w : World) : Calls Try.prog 31 #[.pointer none, .int .u64 m, .slice A n c] w fun e w' => e = .returned (.tuple #[.slice none 0 0, .int .i64 6]) ∧ w' = w := by
  go_enter Try.func31, Try.ntmps31
  go_wp2
  go_ret2
  exact ⟨rfl, rfl⟩
set_option maxHeartbeats 400000 in
theorem zero_type (b : Nat) (A : Option Addr) (m c : Nat) (w : World) (h : w.cell? ⟨b, 0, none⟩ = some (.bool false)) : Calls Try.prog 24 #[.pointer (some ⟨b, 0, none⟩), .slice A m c] w fun e w' => e = .returned (.int .i64 6) ∧ w' = w := by
  go_enter Try.func24, Try.ntmps24
  go_wp2
  go_ret
  exact ⟨rfl, rfl⟩
set_option maxHeartbeats 400000 in
theorem zero_ack (b : Nat) (m : Int) (w : World) (h : w.cell? ⟨b, 0, none⟩ = some (.bool false)) : Calls Try.prog 25 #[.pointer (some ⟨b, 0, none⟩), .int .u64 m] w fun e w' => e = .returned (.int .i64 6) ∧ w' = w := by
  go_enter Try.func25, Try.ntmps25
  go_wp2
  go_ret
  exact ⟨rfl, rfl⟩
set_option maxHeartbeats 400000 in
theorem zero_take (b : Nat) (m : Int) (A : Option Addr) (n c : Nat) (w : World) (h : w.cell? ⟨b, 0, none⟩ = some (.bool false)) : Calls Try.prog 31 #[.pointer (some ⟨b, 0, none⟩), .int .u64 m, .slice A n c] w fun e w' => e = .returned (.tuple #[.slice none 0 0, .int .i64 6]) ∧ w' = w := by
  go_enter Try.func31, Try.ntmps31
  go_wp2
  go_ret2
  exact ⟨rfl, rfl⟩
end Go.Proofs.Ytigbmbmngkmdlaa.Ke
