/-
  ansi: AnsiPieces.
-/
import Derived.Test.YtbcononfgpfdbaaUn
namespace Go.Proofs.Ytbcononfgpfdbaa.An
open Go.RowKit Go.Proofs.Ytbcononfgpfdbaa.L Go.Proofs.Ytbcononfgpfdbaa.N Go.Proofs.YtbcononfgpfdbaaW.PrintWords

theorem cutR_to (A : Option Addr) (n c m : Nat) (h1 : m ≤ n) (hc : n ≤ c) (W : World) : (Instr.slice 52 (.slice A n c) none (some (.int .i64 (m : Int))) none).run Try.prog W = .ok (.slice A m c) W := by
  obtain ⟨i0, hi, hzz⟩ := Option.map_eq_some_iff.1 info_r
  exact (cut_to 52 21 .i64 Try.underlying52 hi A n c m (by omega) (by omega) hc W).trans (by rw [Int.toNat_natCast])
theorem cutR_from (A : Option Addr) (n c m : Nat) (h1 : m ≤ n) (hc : n ≤ c) : ∃ A' c', (∀ W : World, (Instr.slice 52 (.slice A n c) (some (.int .i64 (m : Int))) none none).run Try.prog W = .ok (.slice A' (n - m) c') W) ∧ n - m ≤ c' ∧ (∀ ad, A' = some ad → ∃ ad0, A = some ad0 ∧ ad0.block = ad.block) ∧
      ∀ (W : World) (l : List Int), l.length = n → (Kd.int .i32).C W A n l → (Kd.int .i32).C W A' (n - m) (l.drop m) := by
  obtain ⟨i0, hi0, hzz⟩ := Option.map_eq_some_iff.1 info_r
  simp only [Prod.mk.injEq] at hzz
  refine ⟨_, _, fun W => (cut_from 52 21 .i64 Try.underlying52 hi0 1 hzz.2.1 A n c m (by omega) (by omega) W).trans (by rw [Int.toNat_natCast]), by omega, ?_, ?_⟩
  · intro ad had
    split at had
    · exact ⟨ad, had, rfl⟩
    · obtain ⟨x, hx, rfl⟩ := Option.map_eq_some_iff.1 had
      exact ⟨x, hx, by unfold Addr.add; split <;> rfl⟩
  · intro W l hl hC
    have h := Kd.C_mid (xs := l) (lo := m) (hi := n) (c := c) (by rw [hl]; exact hC) (by omega) (by omega) (by omega)
    have hlen : (l.drop m).length = n - m := by rw [List.length_drop]; omega
    rw [List.take_of_length_le (by omega), hlen] at h
    exact h
theorem C_takeR {w : World} {A : Option Addr} {l : List Int} (h : (Kd.int .i32).C w A l.length l) {m : Nat} (hm : m ≤ l.length) : (Kd.int .i32).C w A m (l.take m) := by
  have h1 := Kd.C_take (xs := l) h (m := m) hm
  rwa [show (l.take m).length = m from by rw [List.length_take]; exact Nat.min_eq_left hm] at h1
theorem C_blk {w : World} {A : Option Addr} {l : List Int} (h : (Kd.int .i32).C w A l.length l) : 0 < l.length → ∀ ad, A = some ad → ad.block < w.heap.size := fun h0 ad e => by
  obtain ⟨b, off, e2, hb, _⟩ := (C_open h).2.resolve_left (fun h => by rw [h] at h0; exact absurd h0 (by simp))
  rw [e2] at e
  injection e with e
  subst e
  exact hb
set_option maxRecDepth 100000 in
set_option maxHeartbeats 6400000 in
theorem pieces_walk (l : List Int) (A : Option Addr) (c : Nat) (at' : Int) (w : World) (hC : (Kd.int .i32).C w A l.length l) (hc : l.length ≤ c) :
    Calls Try.prog 8 #[.slice A l.length c, .int .i64 at'] w fun e w' => e = .returned (.bool true) ∧ Below w.heap.size w w' := by
  by_cases hg0 : 1500 < l.length
  · have tg0 : decide ((1500 : Int) < (l.length : Int)) = true := decide_eq_true (by omega)
    clear hC hc hg0
    go_enter Try.func8, Try.ntmps8
    go_wp2_with fail
    refine (alive_any _).mono ?_
    rintro e w1 ⟨rfl, hb⟩
    go_wp2_with fail
    go_ret
    exact ⟨rfl, hb⟩
  have tg0 : decide ((1500 : Int) < (l.length : Int)) = false := decide_eq_false (by omega)
  by_cases hg1 : at' < 0
  · have tg1 : decide (at' < 0) = true := decide_eq_true (by omega)
    clear hC hc hg0 hg1
    go_enter Try.func8, Try.ntmps8
    go_wp2_with fail
    refine (alive_any _).mono ?_
    rintro e w1 ⟨rfl, hb⟩
    go_wp2_with fail
    go_ret
    exact ⟨rfl, hb⟩
  have tg1 : decide (at' < 0) = false := decide_eq_false (by omega)
  by_cases hg2 : (l.length : Int) < at'
  · have tg2 : decide ((l.length : Int) < at') = true := decide_eq_true (by omega)
    clear hC hc hg0 hg1 hg2
    go_enter Try.func8, Try.ntmps8
    go_wp2_with fail
    refine (alive_any _).mono ?_
    rintro e w1 ⟨rfl, hb⟩
    go_wp2_with fail
    go_ret
    exact ⟨rfl, hb⟩
  have tg2 : decide ((l.length : Int) < at') = false := decide_eq_false (by omega)
  obtain ⟨i, rfl⟩ : ∃ k : Nat, at' = (k : Int) := ⟨at'.toNat, by omega⟩
  have hi : i ≤ l.length := by omega
  have hct := cutR_to A l.length c i hi hc
  obtain ⟨A2, c2, hcf, hc2, hSub, hCf⟩ := cutR_from A l.length c i hi hc
  have HLn := Lib.hid (show l.length ≤ 1500 ∧ i ≤ l.length from ⟨by omega, hi⟩)
  have HC := Lib.hid hC
  have HCt := Lib.hid (fun W (h : (Kd.int .i32).C W A l.length l) => C_takeR h hi)
  have HCf := Lib.hid (fun W (h : (Kd.int .i32).C W A l.length l) => hCf W l rfl h)
  have HBk := Lib.hid (C_blk hC)
  have HSb := Lib.hid hSub
  have HTl := Lib.hid (show (l.take i).length = i from by rw [List.length_take]; exact Nat.min_eq_left hi)
  have HDl := Lib.hid (show (l.drop i).length = l.length - i from List.length_drop)
  have hrun := runS_app (enS 0) (l.take i) (l.drop i)
  rw [List.take_append_drop] at hrun
  have HRn := Lib.hid hrun
  have z1 : (i : Int) ≤ (l.length : Int) := by omega
  have z2 : (0 : Int) ≤ (i : Int) := by omega
  have z3 : (l.length : Int) ≤ 1500 := by omega
  clear hC hc hi hc2 hSub hCf hrun hg0 hg1 hg2
  go_enter Try.func8, Try.ntmps8
  go_wp2_with fail
  refine (newp_any w).mono ?_
  rintro e w1 ⟨bp, rfl, hbp, hp1, hw1⟩
  have HP1 := Lib.hid hp1
  have HB1 := Lib.hid hw1
  have HGp := Lib.hid hbp
  clear hbp hp1 hw1
  go_wp2_with fail
  refine (newp_any w1).mono ?_
  rintro e w2 ⟨bq, rfl, hbq, hq2, hw2⟩
  have HQ2 := Lib.hid hq2
  have HP2 := Lib.hid (HP1.out.below hw2)
  have HB2 := Lib.hid (HB1.out.trans (hw2.mono HB1.out.size))
  have HNe := Lib.hid (show bq ≠ bp from by have := HP1.out.lt; omega)
  have HGq := Lib.hid (show w.heap.size ≤ bq from Nat.le_trans HB1.out.size hbq)
  clear hbq hq2 hw2 HP1 HB1
  have hf := feed_any w.heap.size bp nilS nilS (enS 0) (l.take i) A c w2 HP2.out (by rw [HTl.out]; exact HCt.out w2 (Kd.C_below HC.out HB2.out)) (by rw [HTl.out]; have := HLn.out; omega) (fun h0 ad e => ⟨by have := HBk.out (by rw [HTl.out] at h0; have := HLn.out; omega) ad e; have := HGp.out; omega, by simp [Value.ownBlock], by simp [Value.ownBlock]⟩)
  rw [HTl.out] at hf
  have HF := Lib.hid hf
  clear hf
  go_upto_region 5 with (go_at_call 30; refine HF.out.mono ?_; rintro e w3 ⟨vp3, vt3, vr3, rfl, hp3, hr3, ht3⟩; (have HP3 := Lib.hid hp3); (have HR3 := Lib.hid hr3); (have HT3 := Lib.hid ht3); clear hp3 hr3 ht3)
  have HB3 := Lib.hid (TR.low HT3.out HB2.out HGp.out (fun k hk => by simp [Value.ownBlock] at hk) (fun k hk => by simp [Value.ownBlock] at hk) HB2.out.size)
  have HQ3 := Lib.hid (pm_stay HQ2.out HT3.out HP2.out HNe.out (fun k hk => by simp [Value.ownBlock] at hk) (fun k hk => by simp [Value.ownBlock] at hk) rfl rfl)
  have HAp := Lib.hid (fun (h0 : 0 < l.length) ad (e : A = some ad) => show ad.block ≠ bp ∧ some ad.block ≠ vp3.ownBlock ∧ some ad.block ≠ vt3.ownBlock from ⟨by have := HBk.out h0 ad e; have := HGp.out; omega, fun e2 => by have := Kd.R_base HP3.out.par _ e2.symm; have := HBk.out h0 ad e; omega, fun e2 => by have := Kd.R_base HP3.out.txt _ e2.symm; have := HBk.out h0 ad e; omega⟩)
  obtain ⟨A3, c3, hv3⟩ := Kd.R_slice HR3.out
  subst hv3
  have hf := feed_any w.heap.size bp vp3 vt3 (runS (enS 0) (l.take i)).1 (l.drop i) A2 c2 w3 HP3.out (by rw [HDl.out]; exact HCf.out w3 (Kd.C_below HC.out HB3.out)) (by rw [HDl.out]; have := HLn.out; omega) (fun h0 ad e => by
    obtain ⟨ad0, e0, hbb⟩ := HSb.out ad e
    have := HAp.out (by rw [HDl.out] at h0; omega) ad0 e0
    rw [← hbb]
    exact this)
  rw [HDl.out] at hf
  have HF2 := Lib.hid hf
  clear hf HF HT3 HB2 HQ2 HP2 hct
  obtain ⟨n3, hn3⟩ : ∃ n, (runS (enS 0) (l.take i)).2.length = n := ⟨_, rfl⟩
  have Hn3 := Lib.hid hn3
  rw [hn3]
  clear hn3
  go_upto_region 6 with (go_at_call 30; refine HF2.out.mono ?_; rintro e w4 ⟨vp4, vt4, vr4, rfl, hp4, hr4, ht4⟩; (have HP4 := Lib.hid hp4); (have HR4 := Lib.hid hr4); (have HT4 := Lib.hid ht4); clear hp4 hr4 ht4)
  have HB4 := Lib.hid (TR.low HT4.out HB3.out HGp.out (fun k hk => Kd.R_base HP3.out.par k hk) (fun k hk => Kd.R_base HP3.out.txt k hk) HB3.out.size)
  have HQ4 := Lib.hid (pm_stay HQ3.out HT4.out HP3.out HNe.out (fun k hk => by simp [Value.ownBlock] at hk) (fun k hk => by simp [Value.ownBlock] at hk) rfl rfl)
  have HE4 := Lib.hid (evs_stay HR3.out HT4.out HP3.out.blk HP3.out.txt)
  have hf := feed_any _ bq nilS nilS (enS 0) l A c w4 HQ4.out (Kd.C_below HC.out HB4.out) (by have := HLn.out; omega) (fun h0 ad e => ⟨by have := HBk.out h0 ad e; have := HGq.out; omega, by simp [Value.ownBlock], by simp [Value.ownBlock]⟩)
  have HF3 := Lib.hid hf
  obtain ⟨A4, c4, hv4⟩ := Kd.R_slice HR4.out
  obtain ⟨n4, hn4⟩ : ∃ n, (runS (runS (enS 0) (l.take i)).1 (l.drop i)).2.length = n := ⟨_, rfl⟩
  have Hn4 := Lib.hid hn4
  rw [hn4] at hv4
  subst hv4
  clear hf HF2 HT4 HB3 HQ3 HP3 HR3 HAp hn4 hcf
  go_upto_region 7 with (go_at_call 30; refine HF3.out.mono ?_; rintro e w5 ⟨vp5, vt5, vr5, rfl, hp5, hr5, ht5⟩; (have HQ5 := Lib.hid hp5); (have HR5 := Lib.hid hr5); (have HT5 := Lib.hid ht5); clear hp5 hr5 ht5)
  have HB5 := Lib.hid (TR.low HT5.out HB4.out HGq.out (fun k hk => by simp [Value.ownBlock] at hk) (fun k hk => by simp [Value.ownBlock] at hk) HB4.out.size)
  have HP5 := Lib.hid (pm_stay HP4.out HT5.out HQ4.out (Ne.symm HNe.out) (fun k hk => ⟨fun e => by
      obtain ⟨cc, hcc⟩ := Kd.R_typed HP4.out.par k hk
      rw [e, HQ4.out.blk] at hcc
      injection hcc with hcc
      injection hcc with _ hcc _
      exact absurd hcc (by decide), by simp [Value.ownBlock], by simp [Value.ownBlock]⟩) (fun k hk => ⟨fun e => by
      obtain ⟨cc, hcc⟩ := Kd.R_typed HP4.out.txt k hk
      rw [e, HQ4.out.blk] at hcc
      injection hcc with hcc
      injection hcc with _ hcc _
      exact absurd hcc (by decide), by simp [Value.ownBlock], by simp [Value.ownBlock]⟩) rfl rfl)
  have HE5 := Lib.hid (evs_stay0 HE4.out HT5.out HQ4.out.blk)
  have HG5 := Lib.hid (evs_stay0 HR4.out HT5.out HQ4.out.blk)
  obtain ⟨A5, c5, hv5⟩ := Kd.R_slice HR5.out
  obtain ⟨n5, hn5⟩ : ∃ n, (runS (enS 0) l).2.length = n := ⟨_, rfl⟩
  have Hn5 := Lib.hid hn5
  rw [hn5] at hv5
  subst hv5
  have hca := (Kd.R_reads' HE5.out).2.2
  have hcb := (Kd.R_reads' HG5.out).2.2
  have hcc := (Kd.R_reads' HR5.out).2.2
  have HSame := Lib.hid (congrArg Prod.fst HRn.out)
  have HEv := Lib.hid (congrArg Prod.snd HRn.out)
  have HL3 := Lib.hid (Nat.le_trans (runS_len (l.take i) (enS 0)) (show _ ≤ 1500 from by rw [HTl.out]; have := HLn.out; omega))
  have HL4 := Lib.hid (Nat.le_trans (runS_len (l.drop i) (runS (enS 0) (l.take i)).1) (show _ ≤ 1500 from by rw [HDl.out]; have := HLn.out; omega))
  rw [Hn3.out] at HL3
  rw [Hn4.out] at HL4
  have HCa := Lib.hid hca
  have HCb := Lib.hid hcb
  have HCc := Lib.hid hcc
  clear HF3 HT5 HB4 HQ4 HP4 HE4 HR4 HR5 HE5 HG5 hn5 hca hcb hcc HRn HCt HCf
  generalize (runS (runS (enS 0) (l.take i)).1 (l.drop i)).2 = E2 at *
  generalize (runS (runS (enS 0) (l.take i)).1 (l.drop i)).1 = S2 at *
  generalize (runS (enS 0) (l.take i)).2 = E1 at *
  dsimp only at HSame HEv
  go_wp2_with fail
  refine (alive_any w5).mono ?_
  rintro e w6 ⟨rfl, hb6⟩
  have HB6 := Lib.hid (HB5.out.trans (hb6.mono HB5.out.size))
  have HCa6 := Lib.hid (Kd.C_below HCa.out hb6)
  have HCb6 := Lib.hid (Kd.C_below HCb.out hb6)
  have HCc6 := Lib.hid (Kd.C_below HCc.out hb6)
  have HP6 := Lib.hid (HP5.out.below hb6)
  have HQ6 := Lib.hid (HQ5.out.below hb6)
  clear hb6 HB5 HCa HCb HCc HP5 HQ5
  have hbl : Below w6.heap.size w6 (w6.alloc (.cells #[] tE)) := (Below.refl _ _).alloc (Nat.le_refl _) _
  go_wp2_with (at_builtin; first
    | (refine unguard rfl ?_; refine appG (w0 := w6) w6.heap.size (.tmp 65) (.tmp 66) rfl rfl (.slice (some ⟨w6.heap.size, 0, none⟩) 0 0) [] E1 A3 n3 c3 rfl rfl (R_blank _ _ _ _ (Nat.le_refl _)) (by rw [← Hn3.out]; exact kG_of (by rw [Hn3.out] at HCa6 ⊢; exact HCa6.out) ((Below.refl _ _).alloc (Nat.le_refl _) _)) (by simp) (by have := HL3.out; simp; omega) ?_; intro v7 w7 hr7 hb7 _; (obtain ⟨A7, c7, hv7⟩ := Kd.R_slice hr7); (obtain ⟨n7, hn7⟩ : ∃ n, ([] ++ E1).length = n := ⟨_, rfl⟩); (rw [hn7] at hv7; subst hv7; clear hn7); (have HR7 := Lib.hid hr7); (have HB7 := Lib.hid ((show Below w6.heap.size w6 _ from (Below.refl _ _).alloc (Nat.le_refl _) _).trans hb7)); clear hr7 hb7)
    | (refine unguard rfl ?_; refine appG (w0 := w6) w6.heap.size (.tmp 67) (.tmp 68) rfl rfl (.slice A7 n7 c7) ([] ++ E1) E2 A4 n4 c4 rfl rfl HR7.out (by rw [← Hn4.out]; exact kG_of (by rw [Hn4.out] at HCb6 ⊢; exact HCb6.out) HB7.out) HB7.out.size (by have := HL3.out; have := HL4.out; have := Hn3.out; simp; omega) ?_; intro v8 w8 hr8 hb8 _; (have HR8 := Lib.hid hr8); (have HB8 := Lib.hid (HB7.out.trans hb8)); clear hr8 hb8))
  obtain ⟨A8, c8, hv8, _, hC8⟩ := Kd.R_reads HR8.out
  have hE : [] ++ E1 ++ E2 = (runS (enS 0) l).2 := by rw [HEv.out]; rfl
  rw [hE] at hv8 hC8
  have hq := all_true (runS (enS 0) l).2 A8 A5 c8 c5 w8 (kG_C hC8 HB8.out) (Kd.C_below HCc6.out HB8.out)
  rw [Hn5.out] at hv8 hq
  have HQA := Lib.hid hq
  subst hv8
  have HP8 := Lib.hid (HP6.out.below HB8.out)
  have HQ8 := Lib.hid (show PM _ bq vp5 vt5 nilS S2 [] w8 from by have := HQ6.out.below HB8.out; rw [HSame.out] at this; exact this)
  have HB9 := Lib.hid (HB6.out.trans (HB8.out.mono HB6.out.size))
  clear hC8 hE hq HR8 HR7 HB7 HB8 HCa6 HCb6 HCc6 HP6 HQ6 hbl HB6
  refine HQA.out.mono ?_
  rintro e w9 ⟨rfl, hb9⟩
  have HBz := Lib.hid (HB9.out.trans (hb9.mono HB9.out.size))
  have HPz := Lib.hid (HP8.out.below hb9)
  have HQz := Lib.hid (HQ8.out.below hb9)
  clear hb9 HB9 HP8 HQ8 HQA
  have HI1 := Lib.hid (idle_any _ bp _ _ _ _ _ _ w9 HPz.out)
  have HI2 := Lib.hid (idle_any _ bq _ _ _ _ _ _ w9 HQz.out)
  generalize decide (S2.st = 0) = D at *
  go_wp2_with fail
  refine HI1.out.mono ?_
  rintro e w10 ⟨rfl, hw⟩
  rw [hw]
  clear hw w10
  go_wp2_with fail
  refine HI2.out.mono ?_
  rintro e w10 ⟨rfl, hw⟩
  rw [hw]
  clear hw w10
  go_wp2_with fail
  go_ret
  exact ⟨by cases D <;> rfl, HBz.out⟩
end Go.Proofs.Ytbcononfgpfdbaa.An
