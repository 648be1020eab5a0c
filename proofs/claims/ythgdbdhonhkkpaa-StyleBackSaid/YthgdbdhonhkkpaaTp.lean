/-
  style: the law of styles that go there and back.
-/
import Derived.Test.YthgdbdhonhkkpaaTm
namespace Go.Proofs.Ythgdbdhonhkkpaa.St
open Go.RowKit Go.Proofs.Ythgdbdhonhkkpaa.L Go.Proofs.Ythgdbdhonhkkpaa.V Go.Proofs.Ythgdbdhonhkkpaa.N Go.Proofs.YthgdbdhonhkkpaaW.PrintWords

theorem rd_ok {l : List Int} (hl : okB l) {s : Sty} {n : Int} (h : rdR l 0 = (s, n, 0)) : okS s := by
  obtain ⟨_, h1, h2, h3, _⟩ := write_read hl h
  exact ⟨h1, by omega, by omega⟩
/-- s[:n] of bytes -/
theorem cutTo (A : Option Addr) (n c : Nat) (hi : Int) (m : Nat) (h0 : hi = m) (h1 : m ≤ n) (hc : n ≤ c) :
    (∀ W : World, (Instr.slice 23 (.slice A n c) none (some (.int .i64 hi)) none).run Try.prog W = .ok (.slice A m c) W) ∧
      ∀ (W : World) (l : List Int), (Kd.int .u8).C W A n l → (Kd.int .u8).C W A m (l.take m) ∧ (l.take m).length = m := by
  obtain ⟨hr, _⟩ := cutT A n c hi m h0 h1 hc
  refine ⟨hr, fun W l hC => ?_⟩
  have hl := C_lenI hC
  have h := Kd.C_mid (xs := l) (lo := 0) (hi := m) (c := c) (by rw [hl]; exact hC) (by omega) (by omega) (by omega)
  have hlen : (l.take m).length = m := by rw [List.length_take]; omega
  rw [List.drop_zero, hlen] at h
  refine ⟨?_, hlen⟩
  by_cases hz : c = 0
  · rw [if_pos hz] at h; exact h
  · rw [if_neg hz] at h
    cases A with
    | none => exact h
    | some ad => simpa [Addr.add] using h
set_option maxRecDepth 100000 in
set_option maxHeartbeats 3200000 in
theorem back_walk (s : Sty) (l : List Int) (A : Option Addr) (c : Nat) (w : World) (hs : okS s) (hC : (Kd.int .u8).C w A l.length l) (hc : l.length ≤ c) (hl : okB l) :
    Calls Try.prog 8 #[.agg (stA s), .slice A l.length c] w fun e w' => e = .returned (.bool true) ∧ Below w.heap.size w w' := by
  have hX := OB.mk w s
  have hB : Below w.heap.size w (w.alloc (.cells (stA s) tS)) := (Below.refl _ _).alloc (Nat.le_refl _) _
  have hmx := (C_open hC).1
  rw [show (Value.agg (stA s)) = .agg #[.int .u8 (s.1 : Int), .int .u32 (s.2.1 : Int), .int .u32 (s.2.2 : Int)] from rfl]
  by_cases hg : 1000 < l.length
  · have t1 : decide ((1000 : Int) < (l.length : Int)) = true := decide_eq_true (by omega)
    have t1n : decide (1000 < l.length) = true := decide_eq_true hg
    have HB := Lib.hid hB
    clear hX hB hC hc hl hmx hg hs
    go_enter Try.func8, Try.ntmps8
    go_wp2_with (go_at_call 30; refine (alive_any _).mono ?_; rintro e w1 ⟨rfl, hb1⟩; (have HB1 := Lib.hid (HB.out.trans (hb1.mono HB.out.size))); clear hb1)
    go_ret
    exact ⟨rfl, HB1.out⟩
  have t1 : decide ((1000 : Int) < (l.length : Int)) = false := decide_eq_false (by omega)
  have t1n : decide (1000 < l.length) = false := decide_eq_false hg
  have z1 : (l.length : Int) ≤ 1000 := by omega
  have HX := Lib.hid hX
  have HB := Lib.hid hB
  have HC := Lib.hid hC
  have HK := Lib.hid hc
  have HL := Lib.hid hl
  have HS := Lib.hid hs
  clear hX hB hC hc hl hmx hg hs
  -- what the second half does, from whatever world
  have HTail : Hid (∀ W : World, Below w.heap.size w W → Calls Try.prog 32 #[.slice A l.length c, .int .i64 0] W fun e w' => e = rdV (rdR l 0) ∧ Below W.heap.size W w') :=
    Lib.hid (fun W hb => read_any l A c 0 W (Kd.C_below HC.out hb) HK.out HL.out)
  by_cases hr : rightB s = true
  · have hq := write_any s (w.alloc (.cells (stA s) tS))
    rw [show wrE s = 0 from if_pos hr] at hq
    have HRW := Lib.hid (read_write hr HS.out.1)
    have HWo := Lib.hid (wrL_ok HS.out.1)
    obtain ⟨y, hy⟩ : ∃ y, wrL s = y := ⟨_, rfl⟩
    rw [hy] at hq HRW HWo
    have HQ := Lib.hid hq
    clear hq hr hy
    go_enter Try.func8, Try.ntmps8
    go_upto_region 5 with (go_at_call 31; refine HQ.out.mono ?_; rintro e w2 ⟨v, rfl, hv, hb2⟩; obtain ⟨A2, q2, rfl, hq2, hC2⟩ := Kd.R_reads hv; (have HC2 := Lib.hid hC2); (have Hq2 := Lib.hid hq2); (have HX2 := Lib.hid (HX.out.below hb2)); (have HB2 := Lib.hid (HB.out.trans (hb2.mono HB.out.size))); clear hv hb2 hq2 hC2 HQ)
    have hq := read_any y A2 q2 0 w2 HC2.out Hq2.out HWo.out
    rw [HRW.out] at hq
    unfold rdV at hq
    have HQ := Lib.hid hq
    clear hq
    go_upto_region 6 with (go_at_call 32; refine HQ.out.mono ?_; rintro e w3 ⟨rfl, hb3⟩; (have HX3 := Lib.hid (HX2.out.below hb3)); (have HB3 := Lib.hid (HB2.out.trans (hb3.mono HB2.out.size))); clear hb3 HQ; (unfold stA); dsimp only)
    refine wp_at fun W3 hW3 => ?_
    have HY3 := Lib.hid (show OB w3.heap.size s W3 from hW3 ▸ OB.mk w3 s)
    have HX4 := Lib.hid (show OB w.heap.size s W3 from hW3 ▸ blk_alloc HX3.out _)
    have HB4 := Lib.hid (show Below w.heap.size w W3 from hW3 ▸ HB3.out.alloc HB3.out.size _)
    clear hW3 HX3 HB3 HX2 HB2
    have k0 := HY3.out.c0
    have k1 := HY3.out.c1
    have k2 := HY3.out.c2
    have c0 := HX4.out.c0
    have c1 := HX4.out.c1
    have c2 := HX4.out.c2
    go_wp2_with fail
    clear k0 k1 k2 c0 c1 c2
    have HBX := HB4
    clear HB4 HX4 HY3 HC2 Hq2 HWo HRW
    refine (HTail.out _ HBX.out).mono ?_
    rintro e w5 ⟨rfl, hb5⟩
    have HB5 := Lib.hid (HBX.out.trans (hb5.mono HBX.out.size))
    clear hb5 HBX HTail
    obtain ⟨⟨t, n, er⟩, hp⟩ : ∃ p, rdR l 0 = p := ⟨_, rfl⟩
    rw [hp]
    unfold rdV stA
    dsimp only
    by_cases he : er = 0
    · subst he
      obtain ⟨m1, m2, m3, m4, m5, m6, m7⟩ := write_read HL.out hp
      obtain ⟨m, rfl⟩ := Int.eq_ofNat_of_zero_le m5
      rw [Int.toNat_natCast] at m7
      have hml : m ≤ l.length := by omega
      have t5 : decide ((m : Int) ≤ (l.length : Int)) = true := decide_eq_true m6
      have t5n : decide (m ≤ l.length) = true := decide_eq_true hml
      obtain ⟨hcut, hCut⟩ := cutTo A l.length c (m : Int) m rfl hml HK.out
      have HCut := Lib.hid hCut
      have z5 : (m : Int) ≤ (l.length : Int) := m6
      have z6 : (0 : Int) ≤ (m : Int) := by omega
      have HM := Lib.hid (show rightB t = true ∧ wrL t = l.take m from ⟨m1, m7⟩)
      clear m1 m2 m3 m4 m5 m6 m7 hp hCut hml
      go_upto_region 9 with (fail)
      refine wp_at fun W6 hW6 => ?_
      have HY6 := Lib.hid (show OB w5.heap.size t W6 from hW6 ▸ OB.mk w5 t)
      have HB6 := Lib.hid (show Below w.heap.size w W6 from hW6 ▸ HB5.out.alloc HB5.out.size _)
      clear hW6 HB5
      have k0 := HY6.out.c0
      have k1 := HY6.out.c1
      have k2 := HY6.out.c2
      have hq := write_any t W6
      rw [show wrE t = 0 from if_pos HM.out.1, HM.out.2] at hq
      have HQ6 := Lib.hid hq
      clear hq
      have hlen : (l.take m).length = m := (HCut.out w l HC.out).2
      go_upto_region 12 with (go_at_call 31; refine HQ6.out.mono ?_; rintro e w7 ⟨v, rfl, hv, hb7⟩; obtain ⟨A7, q7, rfl, hq7, hC7⟩ := Kd.R_reads hv; (rw [hlen] at hC7 ⊢); (have HC7 := Lib.hid hC7); (have HB7 := Lib.hid (HB6.out.trans (hb7.mono HB6.out.size))); clear hv hb7 hq7 hC7 HQ6 k0 k1 k2)
      refine Q.wp_region_segs none [([], some 0), ([1, 2, 3, 4, 5, 6, 7, 8, 9, 10, 11, 12, 13, 14, 15, 16, 17, 18, 19, 20], none)] (by kernel_rfl) (by kernel_rfl) (by kernel_rfl) (by kernel_rfl) ?_
      dsimp only [Q.wpSegs, Q.picks, Q.pick]
      refine wpQuiet_nil ?_
      go_wp2_with (go_at_call 30; refine (alive_any _).mono ?_; rintro e w8 ⟨rfl, hb8⟩; (have HB8 := Lib.hid hb8); clear hb8)
      refine Q.ev_done HB8.out (Nat.le_refl _) ?_
      have HB9 := Lib.hid (HB7.out.trans ((stay1 (stay0 w7) HB8.out).mono HB7.out.size))
      have q1 : ∀ n : Q.GW w8 w8.heap.size none, (convert 23 9 (.slice A7 m q7)).run Try.prog n.w = .ok (.string (strOfNums (l.take m))) n.w := fun n => Kd.C_string Try.underlying23 Try.underlying5 Try.underlying9 (Kd.C_below (Kd.C_below HC7.out (stay1 (stay0 w7) HB8.out)) n.below)
      have q2 : ∀ n : Q.GW w8 w8.heap.size none, (convert 23 9 (.slice A m c)).run Try.prog n.w = .ok (.string (strOfNums (l.take m))) n.w := fun n => Kd.C_string Try.underlying23 Try.underlying5 Try.underlying9 (Kd.C_below (Kd.C_below (HCut.out w l HC.out).1 HB9.out) n.below)
      clear hlen
      repeat (go_big_quiet_step (fail))
      refine wpQuiet_nil ?_
      refine NoPanic.normal ?_
      go_wp2_with fail
      go_ret
      exact ⟨rfl, HB9.out⟩
    · obtain ⟨b1, b2⟩ := read_bad (l := l) (i := 0) (by rw [hp]; exact he)
      rw [hp] at b1 b2
      dsimp only at b1 b2
      subst b1 b2
      have t5 : (er != 0) = true := by rw [bne_iff_ne]; exact he
      clear he hp
      go_upto_region 9 with (fail)
      refine wp_at fun W6 hW6 => ?_
      have HY6 := Lib.hid (show OB w5.heap.size (0, 0, 0) W6 from hW6 ▸ OB.mk w5 (0, 0, 0))
      have HB6 := Lib.hid (show Below w.heap.size w W6 from hW6 ▸ HB5.out.alloc HB5.out.size _)
      clear hW6 HB5
      go_wp2_with (go_at_call 30; refine (alive_any _).mono ?_; rintro e w8 ⟨rfl, hb8⟩; (have y8 := HY6.out.below hb8); (have k0 := y8.c0); (have k1 := y8.c1); (have k2 := y8.c2); (have HB8 := Lib.hid (HB6.out.trans (hb8.mono HB6.out.size))); clear hb8 y8)
      go_ret
      exact ⟨rfl, HB8.out⟩
  · have hq := write_any s (w.alloc (.cells (stA s) tS))
    rw [show wrE s = 3 from if_neg hr] at hq
    have HQ := Lib.hid hq
    clear hq hr
    go_enter Try.func8, Try.ntmps8
    go_wp2_with (go_at_call 31; refine HQ.out.mono ?_; rintro e w2 ⟨v, rfl, hv, hb2⟩; (have HB2 := Lib.hid (HB.out.trans (hb2.mono HB.out.size))); clear hv hb2 HQ)
    have HBX := HB2
    clear HB2
    refine (HTail.out _ HBX.out).mono ?_
    rintro e w5 ⟨rfl, hb5⟩
    have HB5 := Lib.hid (HBX.out.trans (hb5.mono HBX.out.size))
    clear hb5 HBX HTail
    obtain ⟨⟨t, n, er⟩, hp⟩ : ∃ p, rdR l 0 = p := ⟨_, rfl⟩
    rw [hp]
    unfold rdV stA
    dsimp only
    by_cases he : er = 0
    · subst he
      obtain ⟨m1, m2, m3, m4, m5, m6, m7⟩ := write_read HL.out hp
      obtain ⟨m, rfl⟩ := Int.eq_ofNat_of_zero_le m5
      rw [Int.toNat_natCast] at m7
      have hml : m ≤ l.length := by omega
      have t5 : decide ((m : Int) ≤ (l.length : Int)) = true := decide_eq_true m6
      have t5n : decide (m ≤ l.length) = true := decide_eq_true hml
      obtain ⟨hcut, hCut⟩ := cutTo A l.length c (m : Int) m rfl hml HK.out
      have HCut := Lib.hid hCut
      have z5 : (m : Int) ≤ (l.length : Int) := m6
      have z6 : (0 : Int) ≤ (m : Int) := by omega
      have HM := Lib.hid (show rightB t = true ∧ wrL t = l.take m from ⟨m1, m7⟩)
      clear m1 m2 m3 m4 m5 m6 m7 hp hCut hml
      go_upto_region 9 with (fail)
      refine wp_at fun W6 hW6 => ?_
      have HY6 := Lib.hid (show OB w5.heap.size t W6 from hW6 ▸ OB.mk w5 t)
      have HB6 := Lib.hid (show Below w.heap.size w W6 from hW6 ▸ HB5.out.alloc HB5.out.size _)
      clear hW6 HB5
      have k0 := HY6.out.c0
      have k1 := HY6.out.c1
      have k2 := HY6.out.c2
      have hq := write_any t W6
      rw [show wrE t = 0 from if_pos HM.out.1, HM.out.2] at hq
      have HQ6 := Lib.hid hq
      clear hq
      have hlen : (l.take m).length = m := (HCut.out w l HC.out).2
      go_upto_region 12 with (go_at_call 31; refine HQ6.out.mono ?_; rintro e w7 ⟨v, rfl, hv, hb7⟩; obtain ⟨A7, q7, rfl, hq7, hC7⟩ := Kd.R_reads hv; (rw [hlen] at hC7 ⊢); (have HC7 := Lib.hid hC7); (have HB7 := Lib.hid (HB6.out.trans (hb7.mono HB6.out.size))); clear hv hb7 hq7 hC7 HQ6 k0 k1 k2)
      refine Q.wp_region_segs none [([], some 0), ([1, 2, 3, 4, 5, 6, 7, 8, 9, 10, 11, 12, 13, 14, 15, 16, 17, 18, 19, 20], none)] (by kernel_rfl) (by kernel_rfl) (by kernel_rfl) (by kernel_rfl) ?_
      dsimp only [Q.wpSegs, Q.picks, Q.pick]
      refine wpQuiet_nil ?_
      go_wp2_with (go_at_call 30; refine (alive_any _).mono ?_; rintro e w8 ⟨rfl, hb8⟩; (have HB8 := Lib.hid hb8); clear hb8)
      refine Q.ev_done HB8.out (Nat.le_refl _) ?_
      have HB9 := Lib.hid (HB7.out.trans ((stay1 (stay0 w7) HB8.out).mono HB7.out.size))
      have q1 : ∀ n : Q.GW w8 w8.heap.size none, (convert 23 9 (.slice A7 m q7)).run Try.prog n.w = .ok (.string (strOfNums (l.take m))) n.w := fun n => Kd.C_string Try.underlying23 Try.underlying5 Try.underlying9 (Kd.C_below (Kd.C_below HC7.out (stay1 (stay0 w7) HB8.out)) n.below)
      have q2 : ∀ n : Q.GW w8 w8.heap.size none, (convert 23 9 (.slice A m c)).run Try.prog n.w = .ok (.string (strOfNums (l.take m))) n.w := fun n => Kd.C_string Try.underlying23 Try.underlying5 Try.underlying9 (Kd.C_below (Kd.C_below (HCut.out w l HC.out).1 HB9.out) n.below)
      clear hlen
      repeat (go_big_quiet_step (fail))
      refine wpQuiet_nil ?_
      refine NoPanic.normal ?_
      go_wp2_with fail
      go_ret
      exact ⟨rfl, HB9.out⟩
    · obtain ⟨b1, b2⟩ := read_bad (l := l) (i := 0) (by rw [hp]; exact he)
      rw [hp] at b1 b2
      dsimp only at b1 b2
      subst b1 b2
      have t5 : (er != 0) = true := by rw [bne_iff_ne]; exact he
      clear he hp
      go_upto_region 9 with (fail)
      refine wp_at fun W6 hW6 => ?_
      have HY6 := Lib.hid (show OB w5.heap.size (0, 0, 0) W6 from hW6 ▸ OB.mk w5 (0, 0, 0))
      have HB6 := Lib.hid (show Below w.heap.size w W6 from hW6 ▸ HB5.out.alloc HB5.out.size _)
      clear hW6 HB5
      go_wp2_with (go_at_call 30; refine (alive_any _).mono ?_; rintro e w8 ⟨rfl, hb8⟩; (have y8 := HY6.out.below hb8); (have k0 := y8.c0); (have k1 := y8.c1); (have k2 := y8.c2); (have HB8 := Lib.hid (HB6.out.trans (hb8.mono HB6.out.size))); clear hb8 y8)
      go_ret
      exact ⟨rfl, HB8.out⟩
end Go.Proofs.Ythgdbdhonhkkpaa.St
