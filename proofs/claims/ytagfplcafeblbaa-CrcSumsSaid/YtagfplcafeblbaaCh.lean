/-
  crc: the law of parts.
-/
import Derived.Test.YtagfplcafeblbaaCg
namespace Go.Proofs.Ytagfplcafeblbaa.C
open Go.RowKit Go.Proofs.Ytagfplcafeblbaa.L Go.Proofs.YtagfplcafeblbaaW.PrintWords

/-- s[lo:] -/
theorem cutf {P : Program} (k kl : IntKind) (t e : TypeId) {i : TypeInfo} (ht : P.underlying t = some (.slice e)) (hi : P.info? e = some i) (hsz : i.size = 1) (A : Option Addr) (n c : Nat) (lo : Int) (n1 : Nat) (h0 : 0 ≤ lo) (h1 : lo + n1 = n) (hc : n ≤ c) :
    ∃ A' c', (∀ W : World, (Instr.slice t (.slice A n c) (some (.int kl lo)) none none).run P W = .ok (.slice A' n1 c') W) ∧ n1 ≤ c' ∧
      ∀ (W : World) (l : List Int), l.length = n → (Kd.int k).C W A n l → (Kd.int k).C W A' n1 (l.drop lo.toNat) ∧ (l.drop lo.toNat).length = n1 := by
  refine ⟨_, _, fun W => (cut_from t e kl ht hi 1 hsz A n c lo h0 (by omega) W).trans (by rw [show n - lo.toNat = n1 from by omega]), by omega, ?_⟩
  intro W l hl hC
  rw [← hl] at hC
  have h := Kd.C_mid (xs := l) (lo := lo.toNat) (hi := n) (c := c) hC (by omega) (by omega) (by omega)
  have hlen : (l.drop lo.toNat).length = n1 := by simp; omega
  rw [List.take_of_length_le (by omega), hlen] at h
  exact ⟨h, hlen⟩
theorem natB_drop (l : List Nat) (m : Nat) : (natB l).drop m = natB (l.drop m) := by simp [natB]
theorem C_none (w : World) : (Kd.int .u8).C w none ([] : List Nat).length (natB []) := Kd.C_of_reads (d := (0 : Int)) ⟨rfl, by simp, fun h => absurd h (by simp)⟩
theorem sum_parts (l : List Nat) (m : Nat) : sumN (ofN (l.take m)) (l.drop m) = ofN l := by
  unfold ofN
  rw [← sum_app, List.take_append_drop]
theorem sum_nil : sumN 0 [] = 0 := by kernel_rfl
theorem su_drew {b : Nat} {r : Int} {w : World} (h : SU b r w) : SU b r w.drew := h.keep rfl

set_option maxHeartbeats 1600000 in
set_option maxRecDepth 100000 in
theorem parts_nat (l : List Nat) (A : Option Addr) (c : Nat) (at' : Int) (w : World) (hC : (Kd.int .u8).C w A l.length (natB l)) (hc : l.length ≤ c) (hl : ∀ x ∈ l, x < 256) :
    Calls Try.prog 7 #[.slice A l.length c, .int .i64 at'] w fun e w' => e = .returned (.bool true) ∧ Below w.heap.size w w' := by
  have HAl := Lib.hid (alive_any w)
  have hm0 := (B_open hC).1
  by_cases h1 : 5000 < l.length
  · have z1 : decide ((5000 : Int) < (l.length : Int)) = true := decide_eq_true (by omega)
    have z0 : (5000 : Int) < (l.length : Int) := by omega
    clear hC hl h1
    go_enter Try.func7, Try.ntmps7
    go_wp2_with fail
    refine HAl.out.mono ?_
    rintro e w1 ⟨rfl, hb⟩
    go_wp2_with fail
    go_ret
    exact ⟨rfl, hb⟩
  have z1 : decide ((5000 : Int) < (l.length : Int)) = false := decide_eq_false (by omega)
  by_cases h2 : at' < 0
  · have z2 : decide (at' < 0) = true := decide_eq_true h2
    clear hC hl h1
    go_enter Try.func7, Try.ntmps7
    go_wp2_with fail
    refine HAl.out.mono ?_
    rintro e w1 ⟨rfl, hb⟩
    go_wp2_with fail
    go_ret
    exact ⟨rfl, hb⟩
  have z2 : decide (at' < 0) = false := decide_eq_false h2
  by_cases h3 : (l.length : Int) < at'
  · have z3 : decide ((l.length : Int) < at') = true := decide_eq_true h3
    clear hC hl h1 h2
    go_enter Try.func7, Try.ntmps7
    go_wp2_with fail
    refine HAl.out.mono ?_
    rintro e w1 ⟨rfl, hb⟩
    go_wp2_with fail
    go_ret
    exact ⟨rfl, hb⟩
  have z3 : decide ((l.length : Int) < at') = false := decide_eq_false h3
  obtain ⟨m, rfl⟩ : ∃ m : Nat, at' = (m : Int) := ⟨at'.toNat, by omega⟩
  have hml : m ≤ l.length := by omega
  obtain ⟨i0, hi0, hz0⟩ := info_of S.info_u8
  have hct := cut_to 22 5 .i64 Try.underlying22 hi0 A l.length c m (by omega) (by omega) hc
  rw [Int.toNat_natCast] at hct
  obtain ⟨A2, c2, hcf, hc2, hCf⟩ := cutf .u8 .i64 22 5 Try.underlying22 hi0 hz0 A l.length c (m : Int) (l.length - m) (by omega) (by omega) hc
  have hlt : (l.take m).length = m := by simp; omega
  have hld : (l.drop m).length = l.length - m := by simp
  have hC1 : ∀ W, Below w.heap.size w W → (Kd.int .u8).C W A m (natB (l.take m)) := fun W hb => by
    have h := Kd.C_take (m := m) (show (Kd.int .u8).C W A (natB l).length (natB l) from (natB_length l).symm ▸ Kd.C_below hC hb) (by rw [natB_length]; omega)
    rwa [natB_take, natB_length, hlt] at h
  have hC2 : ∀ W, Below w.heap.size w W → (Kd.int .u8).C W A2 (l.length - m) (natB (l.drop m)) := fun W hb => by
    have h := (hCf W (natB l) (natB_length l) (Kd.C_below hC hb)).1
    rwa [Int.toNat_natCast, natB_drop] at h
  have HC := Lib.hid hC
  have HC1 := Lib.hid hC1
  have HC2 := Lib.hid hC2
  have HL := Lib.hid hl
  have HLT := Lib.hid hlt
  have HLD := Lib.hid hld
  have HS := Lib.hid (sum_parts l m)
  have hs0 := SU_new w
  obtain ⟨b, hb⟩ : ∃ b, w.heap.size = b := ⟨_, rfl⟩
  have Hb := Lib.hid hb
  have HS0 := Lib.hid hs0
  clear hC hl hC1 hC2 hCf hlt hld hs0 hb h1 h2 h3 hz0
  go_enter Try.func7, Try.ntmps7
  go_wp2_with fail
  refine Q.wp_region_segsB w.heap.size none [([], some 0), ([1, 2, 3, 4, 5, 7, 8, 9, 11], some 6), ([], some 10), ([], some 12), ([13, 14, 15, 16], some 17), ([18, 19, 20], none)] (by kernel_rfl) (by kernel_rfl) (by kernel_rfl) (by kernel_rfl) ?_
  dsimp only [Q.wpSegs, Q.picks, Q.pick]
  refine wpQuiet_nil ?_
  go_wp2_with (go_at_call 21; refine (alive_any _).mono ?_; rintro e w1 ⟨rfl, hb1⟩; (have HB1 := Lib.hid hb1); clear hb1)
  refine Q.ev_keep HB1.out (by simp) ?_
  have HB1' := Lib.hid (((Below.refl w.heap.size w).alloc (Nat.le_refl _) (.cells zc tS)).drew.trans (HB1.out.mono (by simp)))
  have HS1 := Lib.hid ((su_drew HS0.out).keep (HB1.out.block _ (by simp)))
  clear HB1 HS0
  repeat (go_big_quiet_step (fail))
  refine wpQuiet_nil ?_
  have hq1 := of_any (l.take m) A c w1 (HLT.out.symm ▸ HC1.out w1 HB1'.out) (fun x hx => HL.out x (List.mem_of_mem_take hx))
  rw [HLT.out] at hq1
  go_wp2_with (go_at_call 26; refine hq1.mono ?_; clear hq1; rintro e w2 ⟨rfl, hb2⟩; (have HB2 := Lib.hid hb2); clear hb2)
  refine Q.ev_keep HB2.out HB1'.out.size ?_
  have HB2' := Lib.hid (HB1'.out.trans (HB2.out.mono HB1'.out.size))
  have HS2 := Lib.hid (HS1.out.keep (HB2.out.block _ HS1.out.lt))
  clear HB2 HB1' HS1
  refine wpQuiet_nil ?_
  have hne : 0 < (l.drop m).length → ∀ ad, A2 = some ad → ad.block ≠ w.heap.size := fun h0 ad ha e => by
    have hq := HC2.out w (Below.refl _ _)
    rw [← HLD.out] at hq
    rcases (B_open hq).2 with e1 | ⟨bo, off, e1, hbo, _⟩
    · rw [e1] at h0; simp at h0
    · rw [e1] at ha
      injection ha with ha
      rw [← ha] at e
      have e2 : bo = w.heap.size := e
      omega
  have hq2 := more_any w.heap.size 0 (ofN (l.take m)) (l.drop m) A2 c2 w2 HS2.out ⟨by omega, by omega⟩ (ofN_lt (fun x hx => HL.out x (List.mem_of_mem_take hx))) (HLD.out.symm ▸ HC2.out w2 HB2'.out) (fun x hx => HL.out x (List.mem_of_mem_drop hx)) hne
  rw [HLD.out, HS.out] at hq2
  clear hne
  go_wp2_with (go_at_call 22; refine hq2.mono ?_; clear hq2; rintro e w3 ⟨rfl, hs3, hg3⟩; (have HS3 := Lib.hid hs3); (have HG3 := Lib.hid hg3); clear hs3 hg3)
  refine Q.ev_app (B' := w.heap.size) (row' := none) ⟨HG3.out.os, HG3.out.tape, HG3.out.output, HG3.out.size, fun i hi _ => HG3.out.block i (Nat.lt_of_lt_of_le hi HB2'.out.size) (fun e => by injection e with e; omega)⟩ (Nat.le_refl _) (Q.NewRow.none_ _ _) ?_
  have HB3 := Lib.hid (HB2'.out.grown HG3.out HB2'.out.size (fun k hk => by injection hk with hk; omega))
  clear HG3 HB2' HS2
  refine wpQuiet_nil ?_
  have hq3 := of_any l A c w3 (Kd.C_below HC.out HB3.out) HL.out
  go_wp2_with (go_at_call 26; refine hq3.mono ?_; clear hq3; rintro e w4 ⟨rfl, hb4⟩; (have HB4 := Lib.hid hb4); clear hb4)
  refine Q.ev_keep HB4.out HB3.out.size ?_
  have HB4' := Lib.hid (HB3.out.trans (HB4.out.mono HB3.out.size))
  have HS4 := Lib.hid (HS3.out.keep (HB4.out.block _ HS3.out.lt))
  clear HB4 HB3 HS3
  repeat (go_big_quiet_step (fail))
  refine wpQuiet_nil ?_
  have hq4 := more_any w.heap.size (0 + 1) 0 [] none 0 w4 HS4.out ⟨by omega, by omega⟩ (by omega) (C_none w4) (by simp) (fun h => absurd h (by simp))
  rw [sum_nil] at hq4
  go_wp2_with (go_at_call 22; refine hq4.mono ?_; clear hq4; rintro e w5 ⟨rfl, hs5, hg5⟩; (have HG5 := Lib.hid hg5); clear hs5 hg5)
  refine Q.ev_app (B' := w.heap.size) (row' := none) ⟨HG5.out.os, HG5.out.tape, HG5.out.output, HG5.out.size, fun i hi _ => HG5.out.block i (Nat.lt_of_lt_of_le hi HB4'.out.size) (fun e => by injection e with e; omega)⟩ (Nat.le_refl _) (Q.NewRow.none_ _ _) ?_
  have HB5 := Lib.hid (HB4'.out.grown HG5.out HB4'.out.size (fun k hk => by injection hk with hk; omega))
  clear HG5 HB4' HS4
  repeat (go_big_quiet_step (fail))
  refine wpQuiet_nil ?_
  refine NoPanic.normal ?_
  go_wp2_with fail
  go_ret
  exact ⟨rfl, HB5.out⟩
theorem parts_walk (l : List Int) (A : Option Addr) (c : Nat) (at' : Int) (w : World) (hC : (Kd.int .u8).C w A l.length l) (hc : l.length ≤ c) (hl : ∀ x ∈ l, 0 ≤ x ∧ x < 256) :
    Calls Try.prog 7 #[.slice A l.length c, .int .i64 at'] w fun e w' => e = .returned (.bool true) ∧ Below w.heap.size w w' := by
  obtain ⟨m, e1, k1, l1, _⟩ := C_nat hC hl
  rw [← e1]
  exact parts_nat m A c at' w k1 (by omega) l1
end Go.Proofs.Ytagfplcafeblbaa.C
