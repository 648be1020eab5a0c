/-
  ansi: AnsiCancels.
-/
import Derived.Test.YtbcononfgpfdbaaUo
namespace Go.Proofs.Ytbcononfgpfdbaa.An
open Go.RowKit Go.Proofs.Ytbcononfgpfdbaa.L Go.Proofs.Ytbcononfgpfdbaa.N Go.Proofs.YtbcononfgpfdbaaW.PrintWords

/-- a point that is printed -/
abbrev ptE (x : Int) : Ev := (1, x, 0, 0, 0, [], .empty)
def prB (x : Int) : Prop := 32 ≤ x ∧ x ≤ 1114111 ∧ ¬ (55296 ≤ x ∧ x ≤ 57343) ∧ x ≠ 127
theorem step_pr {x : Int} (h : prB x) : stepS (enS 0) x = (enS 0, [ptE x]) := by
  obtain ⟨h1, h2, h3, h4⟩ := h
  obtain ⟨r, rfl⟩ : ∃ r : Nat, x = (r : Int) := ⟨x.toNat, by omega⟩
  unfold stepS
  rw [ok_yes (by omega) h2 (by omega), if_pos rfl, Int.toNat_natCast, takS_ne (by decide), takN_def, if_neg (by omega), if_neg (by omega), if_neg (by omega), if_neg (by omega), if_pos (.inl rfl)]
theorem run_pr : ∀ (l : List Int), (∀ x ∈ l, prB x) → runS (enS 0) l = (enS 0, l.map ptE)
  | [], _ => rfl
  | x :: l, h => by
    rw [runS_cons, step_pr (h x (by simp)), run_pr l (fun y hy => h y (by simp [hy]))]
    rfl
theorem run_at {m : List Int} {i : Nat} (hi : i < m.length) (h : ∀ x ∈ m.take i, prB x) (hx : prB (m.getD i 0)) : i < (runS (enS 0) m).2.length ∧ (runS (enS 0) m).2.getD i zE = ptE (m.getD i 0) := by
  have h1 : ∀ x ∈ m.take (i + 1), prB x := fun x hm => by
    rw [List.take_succ_eq_append_getElem hi] at hm
    rcases List.mem_append.1 hm with hm | hm
    · exact h x hm
    · rw [List.mem_singleton.1 hm]
      rwa [List.getD_eq_getElem?_getD, List.getElem?_eq_getElem hi] at hx
  have hrun := runS_app (enS 0) (m.take (i + 1)) (m.drop (i + 1))
  rw [List.take_append_drop, run_pr _ h1] at hrun
  have e := congrArg Prod.snd hrun
  dsimp only at e
  have hl : ((m.take (i + 1)).map ptE).length = i + 1 := by rw [List.length_map, List.length_take]; omega
  rw [e]
  refine ⟨by rw [List.length_append, hl]; omega, ?_⟩
  rw [List.getD_eq_getElem?_getD, List.getElem?_append_left (by omega), List.getElem?_map, List.getElem?_take, if_pos (by omega), List.getD_eq_getElem?_getD, List.getElem?_eq_getElem hi]
  rfl
theorem step_24 (S : St) : runS S [24] = (enS 0, []) := by
  rw [runS_cons]
  have : stepS S 24 = (enS 0, []) := by
    unfold stepS
    rw [show okP 24 = true from by decide, if_pos rfl]
    unfold takS
    rw [if_pos (.inl rfl)]
  rw [this]
  rfl
set_option maxRecDepth 100000 in
set_option maxHeartbeats 6400000 in
theorem cancels_walk (l m : List Int) (A B : Option Addr) (c cm : Nat) (w : World) (hC : (Kd.int .i32).C w A l.length l) (hM : (Kd.int .i32).C w B m.length m) :
    Calls Try.prog 9 #[.slice A l.length c, .slice B m.length cm] w fun e w' => e = .returned (.bool true) ∧ Below w.heap.size w w' := by
  by_cases hg0 : 1500 < l.length
  · have tg0 : decide ((1500 : Int) < (l.length : Int)) = true := decide_eq_true (by omega)
    clear hC hM hg0
    go_enter Try.func9, Try.ntmps9
    go_wp2_with fail
    refine (alive_any _).mono ?_
    rintro e w1 ⟨rfl, hb⟩
    go_wp2_with fail
    go_ret
    exact ⟨rfl, hb⟩
  have tg0 : decide ((1500 : Int) < (l.length : Int)) = false := decide_eq_false (by omega)
  by_cases hg1 : 500 < m.length
  · have tg1 : decide ((500 : Int) < (m.length : Int)) = true := decide_eq_true (by omega)
    clear hC hM hg0 hg1
    go_enter Try.func9, Try.ntmps9
    go_wp2_with fail
    refine (alive_any _).mono ?_
    rintro e w1 ⟨rfl, hb⟩
    go_wp2_with fail
    go_ret
    exact ⟨rfl, hb⟩
  have tg1 : decide ((500 : Int) < (m.length : Int)) = false := decide_eq_false (by omega)
  have HLn := Lib.hid (show l.length ≤ 1500 ∧ m.length ≤ 500 from ⟨by omega, by omega⟩)
  have HC := Lib.hid hC
  have HM := Lib.hid hM
  have HBk := Lib.hid (C_blk hC)
  have HBm := Lib.hid (C_blk hM)
  have z3 : (l.length : Int) ≤ 1500 := by omega
  have z4 : (m.length : Int) ≤ 500 := by omega
  clear hC hM hg0 hg1
  go_enter Try.func9, Try.ntmps9
  go_wp2_with fail
  refine (newp_any w).mono ?_
  rintro e w1 ⟨bp, rfl, hbp, hp1, hw1⟩
  have HP1 := Lib.hid hp1
  have HB1 := Lib.hid hw1
  have HGp := Lib.hid hbp
  clear hbp hp1 hw1
  go_wp2_with fail
  refine (newp_any w1).mono ?_
  rintro e w2 ⟨bq, rfl, hbq, hq2, hw2⟩
  have HQ2 := Lib.hid hq2
  have HP2 := Lib.hid (HP1.out.below hw2)
  have HB2 := Lib.hid (HB1.out.trans (hw2.mono HB1.out.size))
  have HNe := Lib.hid (show bq ≠ bp from by have := HP1.out.lt; omega)
  have HGq := Lib.hid (show w.heap.size ≤ bq from Nat.le_trans HB1.out.size hbq)
  clear hbq hq2 hw2 HP1 HB1
  have HF := Lib.hid (feed_any w.heap.size bp nilS nilS (enS 0) l A c w2 HP2.out (Kd.C_below HC.out HB2.out) (by have := HLn.out; omega) (fun h0 ad e => ⟨by have := HBk.out h0 ad e; have := HGp.out; omega, by simp [Value.ownBlock], by simp [Value.ownBlock]⟩))
  go_upto_region 5 with (go_at_call 30; refine HF.out.mono ?_; rintro e w3 ⟨vp3, vt3, vr3, rfl, hp3, hr3, ht3⟩; (have HP3 := Lib.hid hp3); (have HT3 := Lib.hid ht3); clear hp3 hr3 ht3)
  have HB3 := Lib.hid (TR.low HT3.out HB2.out HGp.out (fun k hk => by simp [Value.ownBlock] at hk) (fun k hk => by simp [Value.ownBlock] at hk) HB2.out.size)
  have HQ3 := Lib.hid (pm_stay HQ2.out HT3.out HP2.out HNe.out (fun k hk => by simp [Value.ownBlock] at hk) (fun k hk => by simp [Value.ownBlock] at hk) rfl rfl)
  clear HF HT3 HB2 HQ2 HP2 HC HBk
  go_wp2_with fail
  refine calls_at fun W3 hW3 => ?_
  have hC3 := C_r (l := [24]) hW3 (by decide)
  have hb3 : Below w3.heap.size w3 W3 := by rw [hW3]; exact (Below.refl _ _).alloc (Nat.le_refl _) _
  have HP4 := Lib.hid (HP3.out.below hb3)
  have HQ4 := Lib.hid (HQ3.out.below hb3)
  have HB4 := Lib.hid (HB3.out.trans (hb3.mono HB3.out.size))
  have hf := feed_any w.heap.size bp vp3 vt3 (runS (enS 0) l).1 [24] _ 1 W3 HP4.out hC3 (by decide) (fun _ ad e => ⟨by injection e with e; subst e; have := HP3.out.lt; show w3.heap.size ≠ bp; omega, fun e2 => by injection e with e; subst e; have := Kd.R_lt HP3.out.par _ e2.symm; exact absurd this (by simp), fun e2 => by injection e with e; subst e; have := Kd.R_lt HP3.out.txt _ e2.symm; exact absurd this (by simp)⟩)
  rw [step_24] at hf
  have HF := Lib.hid hf
  clear hW3 hC3 hb3 hf HP3 HQ3 HB3
  refine HF.out.mono ?_
  rintro e w5 ⟨vp5, vt5, vr5, rfl, hp5, hr5, ht5⟩
  have HP5 := Lib.hid hp5
  have HQ5 := Lib.hid (pm_stay HQ4.out ht5 HP4.out HNe.out (fun k hk => by simp [Value.ownBlock] at hk) (fun k hk => by simp [Value.ownBlock] at hk) rfl rfl)
  have HB5 := Lib.hid (TR.low ht5 HB4.out HGp.out (fun k hk => Kd.R_base HP4.out.par k hk) (fun k hk => Kd.R_base HP4.out.txt k hk) HB4.out.size)
  obtain ⟨A5, c5, hv5⟩ := Kd.R_slice hr5
  have hv5' : vr5 = .slice A5 0 c5 := hv5
  subst hv5'
  clear hv5 hp5 hr5 ht5 HF HP4 HQ4 HB4
  have HI := Lib.hid (idle_any _ bp _ _ _ _ _ _ w5 HP5.out)
  rw [show decide ((enS 0).st = 0) = true from rfl] at HI
  go_wp2_with fail
  refine HI.out.mono ?_
  rintro e w6 ⟨rfl, hw⟩
  rw [hw]
  clear hw w6 HI
  have HF := Lib.hid (feed_any w.heap.size bp vp5 vt5 (enS 0) m B cm w5 HP5.out (Kd.C_below HM.out HB5.out) (by have := HLn.out; omega) (fun h0 ad e => ⟨by have := HBm.out h0 ad e; have := HGp.out; omega, fun e2 => by have := Kd.R_base HP5.out.par _ e2.symm; have := HBm.out h0 ad e; omega, fun e2 => by have := Kd.R_base HP5.out.txt _ e2.symm; have := HBm.out h0 ad e; omega⟩))
  go_wp2_with fail
  refine HF.out.mono ?_
  rintro e w7 ⟨vp7, vt7, vr7, rfl, hp7, hr7, ht7⟩
  have HQ7 := Lib.hid (pm_stay HQ5.out ht7 HP5.out HNe.out (fun k hk => by simp [Value.ownBlock] at hk) (fun k hk => by simp [Value.ownBlock] at hk) rfl rfl)
  have HB7 := Lib.hid (TR.low ht7 HB5.out HGp.out (fun k hk => Kd.R_base HP5.out.par k hk) (fun k hk => Kd.R_base HP5.out.txt k hk) HB5.out.size)
  have HR7 := Lib.hid hr7
  clear hp7 hr7 ht7 HF HP5 HQ5 HB5
  have HF := Lib.hid (feed_any _ bq nilS nilS (enS 0) m B cm w7 HQ7.out (Kd.C_below HM.out HB7.out) (by have := HLn.out; omega) (fun h0 ad e => ⟨by have := HBm.out h0 ad e; have := HGq.out; omega, by simp [Value.ownBlock], by simp [Value.ownBlock]⟩))
  obtain ⟨A7, c7, hv7⟩ := Kd.R_slice HR7.out
  obtain ⟨n, hn⟩ : ∃ n, (runS (enS 0) m).2.length = n := ⟨_, rfl⟩
  have Hn := Lib.hid hn
  rw [hn] at hv7
  subst hv7
  clear hn
  go_wp2_with fail
  refine HF.out.mono ?_
  rintro e w9 ⟨vp9, vt9, vr9, rfl, hp9, hr9, ht9⟩
  have HB9 := Lib.hid (TR.low ht9 HB7.out HGq.out (fun k hk => by simp [Value.ownBlock] at hk) (fun k hk => by simp [Value.ownBlock] at hk) HB7.out.size)
  have HE9 := Lib.hid (evs_stay0 HR7.out ht9 HQ7.out.blk)
  have HR9 := Lib.hid hr9
  clear hp9 hr9 ht9 HF HQ7 HB7 HR7
  obtain ⟨A9, c9, hv9⟩ := Kd.R_slice HR9.out
  rw [Hn.out] at hv9
  subst hv9
  have hca := (Kd.R_reads' HE9.out).2.2
  have hcb := (Kd.R_reads' HR9.out).2.2
  have hq := all_true (runS (enS 0) m).2 A7 A9 c7 c9 w9 (by rw [Hn.out] at hca ⊢; exact hca) (by rw [Hn.out] at hcb ⊢; exact hcb)
  rw [Hn.out] at hq
  have HQA := Lib.hid hq
  have HC9 := Lib.hid (show kE.C w9 A9 (runS (enS 0) m).2.length (runS (enS 0) m).2 from by rw [Hn.out] at hcb ⊢; exact hcb)
  clear hca hcb hq HE9 HR9
  go_wp2_with fail
  refine HQA.out.mono ?_
  rintro e w10 ⟨rfl, hb10⟩
  have HB10 := Lib.hid (HB9.out.trans (hb10.mono HB9.out.size))
  have HC10 := Lib.hid (Kd.C_below HC9.out hb10)
  have HNl := Lib.hid (Nat.le_trans (runS_len m (enS 0)) HLn.out.2)
  rw [Hn.out] at HNl
  clear hb10 HB9 HC9 HQA
  have z5 : (n : Int) ≤ 500 := by have := HNl.out; omega
  go_wp2_with fail
  go_loopg [14, 15] (m.length + 1) (fun g v14 v15 w' => ∃ i : Nat, v14 = .int .i64 (i : Int) ∧ v15 = .int .i64 (i : Int) ∧ Hid (i ≤ m.length ∧ m.length < g + i) ∧ Hid (∀ x ∈ m.take i, prB x) ∧ Hid (Below w10.heap.size w10 w'))
  case atStart => exact ⟨0, rfl, rfl, Lib.hid ⟨by omega, by omega⟩, Lib.hid (fun x hx => by cases hx), Lib.hid (Below.refl _ _)⟩
  case round =>
    obtain ⟨i, rfl, rfl, HJ, HX, HB⟩ := hrel
    have HBw := Lib.hid (HB10.out.trans (HB.out.mono HB10.out.size))
    cases gk with
    | zero => have := HJ.out; omega
    | succ g1 =>
      by_cases hi : i < m.length
      · have HJ' := Lib.hid (show i < m.length ∧ m.length < (g1 + 1) + i from ⟨hi, HJ.out.2⟩)
        have z1 : (i : Int) < (m.length : Int) := by omega
        have z2 : (0 : Int) ≤ (i : Int) := by omega
        obtain ⟨bm, om, rfl, hbm, hcm⟩ := (C_open (Kd.C_below HM.out HBw.out)).2.resolve_left (fun h => by rw [h] at hi; exact absurd hi (by simp))
        have k0 := hcm i hi
        have q0 := gw hbm k0
        have HAt := Lib.hid (fun hx => run_at hi HX.out hx)
        have HSt := Lib.hid (fun (hx : prB (m.getD i 0)) => show ∀ x ∈ m.take (i + 1), prB x from fun x hm => by
          rw [List.take_succ_eq_append_getElem hi] at hm
          rcases List.mem_append.1 hm with hm | hm
          · exact HX.out x hm
          · rw [List.mem_singleton.1 hm]
            rwa [List.getD_eq_getElem?_getD, List.getElem?_eq_getElem hi] at hx)
        obtain ⟨x, hx⟩ : ∃ x, m.getD i 0 = x := ⟨_, rfl⟩
        rw [hx] at k0 q0 HAt HSt
        clear hx hcm hbm hi HJ
        by_cases h1 : x < 32
        · have lt32 : (x : Int) < 32 := by omega
          have ld32 : decide ((x : Int) < 32) = true := decide_eq_true (by omega)
          have HAl := Lib.hid (alive_any wr)
          clear q0 HAt HSt h1
          go_wp2_with fail
          refine HAl.out.mono ?_
          rintro e w12 ⟨rfl, hb12⟩
          have HBz := Lib.hid (HBw.out.trans (hb12.mono HBw.out.size))
          clear hb12 HAl
          go_wp2_with fail
          go_ret
          exact ⟨rfl, HBz.out⟩
        · by_cases h2 : 1114111 < x
          · have lt32 : ¬ (x : Int) < 32 := by omega
            have ld32 : decide ((x : Int) < 32) = false := decide_eq_false (by omega)
            have ltm : (1114111 : Int) < x := by omega
            have ldm : decide ((1114111 : Int) < x) = true := decide_eq_true (by omega)
            have HAl := Lib.hid (alive_any wr)
            clear q0 HAt HSt h1 h2
            go_wp2_with fail
            refine HAl.out.mono ?_
            rintro e w12 ⟨rfl, hb12⟩
            have HBz := Lib.hid (HBw.out.trans (hb12.mono HBw.out.size))
            clear hb12 HAl
            go_wp2_with fail
            go_ret
            exact ⟨rfl, HBz.out⟩
          · by_cases h3 : 55296 ≤ x
            · by_cases h4 : x ≤ 57343
              · have lt32 : ¬ (x : Int) < 32 := by omega
                have ld32 : decide ((x : Int) < 32) = false := decide_eq_false (by omega)
                have ltm : ¬ (1114111 : Int) < x := by omega
                have ldm : decide ((1114111 : Int) < x) = false := decide_eq_false (by omega)
                have lea : (55296 : Int) ≤ x := by omega
                have lfa : decide ((55296 : Int) ≤ x) = true := decide_eq_true (by omega)
                have leb : (x : Int) ≤ 57343 := by omega
                have lfb : decide ((x : Int) ≤ 57343) = true := decide_eq_true (by omega)
                have HAl := Lib.hid (alive_any wr)
                clear q0 HAt HSt h1 h2 h3 h4
                go_wp2_with fail
                refine HAl.out.mono ?_
                rintro e w12 ⟨rfl, hb12⟩
                have HBz := Lib.hid (HBw.out.trans (hb12.mono HBw.out.size))
                clear hb12 HAl
                go_wp2_with fail
                go_ret
                exact ⟨rfl, HBz.out⟩
              · have h5 : x ≠ 127 := by omega
                have lt32 : ¬ (x : Int) < 32 := by omega
                have ld32 : decide ((x : Int) < 32) = false := decide_eq_false (by omega)
                have ltm : ¬ (1114111 : Int) < x := by omega
                have ldm : decide ((1114111 : Int) < x) = false := decide_eq_false (by omega)
                have lea : (55296 : Int) ≤ x := by omega
                have lfa : decide ((55296 : Int) ≤ x) = true := decide_eq_true (by omega)
                have leb : ¬ (x : Int) ≤ 57343 := by omega
                have lfb : decide ((x : Int) ≤ 57343) = false := decide_eq_false (by omega)
                have ebc : ((x : Int) == 127) = false := beq_eq_false_iff_ne.2 (by omega)
                have edc : decide ((x : Int) = 127) = false := decide_eq_false (by omega)
                have enc : ¬ (x : Int) = 127 := by omega
                have hp : prB x := ⟨by omega, by omega, by omega, h5⟩
                have HS2 := Lib.hid (HSt.out hp)
                obtain ⟨hlt, hev⟩ := HAt.out hp
                obtain ⟨bc, oc, rfl, hbc, hcc⟩ := (E_open (Kd.C_below HC10.out HB.out)).2.resolve_left (fun h => by rw [h] at hlt; exact absurd hlt (by simp))
                obtain ⟨P1, p1, k1, _, _⟩ := hcc i hlt
                rw [hev] at k1
                have q1 := gw (w := wr) hbc (show wr.cell? ⟨bc, oc + i * 7, none⟩ = some (.int .i64 1) from k1 0 (by decide))
                have q2 := gw (w := wr) hbc (show wr.cell? ⟨bc, oc + i * 7 + 1, none⟩ = some (.int .i32 x) from by have := k1 1 (by decide); rwa [← Nat.add_assoc] at this)
                have w1 : (i : Int) < (n : Int) := by rw [Hn.out] at hlt; omega
                have w2 : ¬ (n : Int) ≤ (i : Int) := by omega
                have w3 : decide ((n : Int) ≤ (i : Int)) = false := decide_eq_false w2
                have w4 : ¬ n ≤ i := by omega
                have w5 : decide (n ≤ i) = false := decide_eq_false w4
                clear hp hlt hev hbc hcc k1 HAt HSt h1 h2 h3 h4 h5
                go_wp2_with fail
                refine Q.wp_region_segs none [([0, 1, 2, 3, 4, 5, 6, 7, 8, 9, 10, 11, 12, 13, 14, 15, 16, 17, 18, 19, 20, 21, 22, 23], none)] (by kernel_rfl) (by kernel_rfl) (by kernel_rfl) (by kernel_rfl) ?_
                dsimp only [Q.wpSegs, Q.picks, Q.pick]
                repeat (go_big_quiet_step (fail))
                refine wpQuiet_nil ?_
                refine NoPanic.normal ?_
                clear q0 q1 q2
                go_wp2_with fail
                go_roundg g1
                case measure => have := HJ'.out; omega
                case rel => exact ⟨i + 1, by go_num, by go_num, Lib.hid (by have := HJ'.out; omega), HS2, Lib.hid HB.out.drew⟩
            · by_cases h5 : x = 127
              · have lt32 : ¬ (x : Int) < 32 := by omega
                have ld32 : decide ((x : Int) < 32) = false := decide_eq_false (by omega)
                have ltm : ¬ (1114111 : Int) < x := by omega
                have ldm : decide ((1114111 : Int) < x) = false := decide_eq_false (by omega)
                have lea : ¬ (55296 : Int) ≤ x := by omega
                have lfa : decide ((55296 : Int) ≤ x) = false := decide_eq_false (by omega)
                have ebc : ((x : Int) == 127) = true := beq_iff_eq.2 (by omega)
                have edc : decide ((x : Int) = 127) = true := decide_eq_true (by omega)
                have HAl := Lib.hid (alive_any wr)
                clear q0 HAt HSt h1 h2 h3 h5
                go_wp2_with fail
                refine HAl.out.mono ?_
                rintro e w12 ⟨rfl, hb12⟩
                have HBz := Lib.hid (HBw.out.trans (hb12.mono HBw.out.size))
                clear hb12 HAl
                go_wp2_with fail
                go_ret
                exact ⟨rfl, HBz.out⟩
              · have lt32 : ¬ (x : Int) < 32 := by omega
                have ld32 : decide ((x : Int) < 32) = false := decide_eq_false (by omega)
                have ltm : ¬ (1114111 : Int) < x := by omega
                have ldm : decide ((1114111 : Int) < x) = false := decide_eq_false (by omega)
                have lea : ¬ (55296 : Int) ≤ x := by omega
                have lfa : decide ((55296 : Int) ≤ x) = false := decide_eq_false (by omega)
                have ebc : ((x : Int) == 127) = false := beq_eq_false_iff_ne.2 (by omega)
                have edc : decide ((x : Int) = 127) = false := decide_eq_false (by omega)
                have enc : ¬ (x : Int) = 127 := by omega
                have hp : prB x := ⟨by omega, by omega, by omega, h5⟩
                have HS2 := Lib.hid (HSt.out hp)
                obtain ⟨hlt, hev⟩ := HAt.out hp
                obtain ⟨bc, oc, rfl, hbc, hcc⟩ := (E_open (Kd.C_below HC10.out HB.out)).2.resolve_left (fun h => by rw [h] at hlt; exact absurd hlt (by simp))
                obtain ⟨P1, p1, k1, _, _⟩ := hcc i hlt
                rw [hev] at k1
                have q1 := gw (w := wr) hbc (show wr.cell? ⟨bc, oc + i * 7, none⟩ = some (.int .i64 1) from k1 0 (by decide))
                have q2 := gw (w := wr) hbc (show wr.cell? ⟨bc, oc + i * 7 + 1, none⟩ = some (.int .i32 x) from by have := k1 1 (by decide); rwa [← Nat.add_assoc] at this)
                have w1 : (i : Int) < (n : Int) := by rw [Hn.out] at hlt; omega
                have w2 : ¬ (n : Int) ≤ (i : Int) := by omega
                have w3 : decide ((n : Int) ≤ (i : Int)) = false := decide_eq_false w2
                have w4 : ¬ n ≤ i := by omega
                have w5 : decide (n ≤ i) = false := decide_eq_false w4
                clear hp hlt hev hbc hcc k1 HAt HSt h1 h2 h3 h5
                go_wp2_with fail
                refine Q.wp_region_segs none [([0, 1, 2, 3, 4, 5, 6, 7, 8, 9, 10, 11, 12, 13, 14, 15, 16, 17, 18, 19, 20, 21, 22, 23], none)] (by kernel_rfl) (by kernel_rfl) (by kernel_rfl) (by kernel_rfl) ?_
                dsimp only [Q.wpSegs, Q.picks, Q.pick]
                repeat (go_big_quiet_step (fail))
                refine wpQuiet_nil ?_
                refine NoPanic.normal ?_
                clear q0 q1 q2
                go_wp2_with fail
                go_roundg g1
                case measure => have := HJ'.out; omega
                case rel => exact ⟨i + 1, by go_num, by go_num, Lib.hid (by have := HJ'.out; omega), HS2, Lib.hid HB.out.drew⟩
      · obtain rfl : i = m.length := by have := HJ.out; omega
        have HEq := Lib.hid (show n = m.length from by
          have h1 := HX.out
          rw [List.take_length] at h1
          rw [← Hn.out, run_pr m h1, List.length_map])
        have HAl := Lib.hid (alive_any wr)
        have e1 : ((m.length : Int) == (n : Int)) = true := beq_iff_eq.2 (by have := HEq.out; omega)
        have e2 : (m.length : Int) = (n : Int) := by have := HEq.out; omega
        clear hi HJ HX
        go_wp2_with fail
        refine HAl.out.mono ?_
        rintro e w12 ⟨rfl, hb12⟩
        have HBz := Lib.hid (HBw.out.trans (hb12.mono HBw.out.size))
        clear hb12 HAl
        go_wp2_with fail
        go_ret
        exact ⟨rfl, HBz.out⟩
end Go.Proofs.Ytbcononfgpfdbaa.An
