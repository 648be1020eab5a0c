/-
  keys: the law KeysBound, walked.
-/
import Derived.Test.YtigbmbmngkmdlaaKe
namespace Go.Proofs.Ytigbmbmngkmdlaa.Ke
open Go.RowKit Go.Proofs.Ytigbmbmngkmdlaa.L Go.Proofs.YtigbmbmngkmdlaaW.PrintWords

theorem count_as (b : Nat) (n : Nat) (l : List Int) (c : Nat) (w : World) (h : St b n l w) (hc : n + l.length = c) (h1 : c < 18446744073709551616) : Calls Try.prog 27 #[.pointer (some ⟨b, 0, none⟩)] w fun e w' => e = .returned (.int .u64 c) ∧ Below w.heap.size w w' := by
  have := count_any b n l w h (by omega) (by omega)
  rwa [show (n : Int) + (l.length : Int) = (c : Int) from by omega] at this
theorem drop_app {n : Nat} {T B : List Int} (h : n ≤ T.length) : T.drop n ++ B = (T ++ B).drop n := (List.drop_append_of_le_length h).symm

set_option maxHeartbeats 12800000 in
set_option maxRecDepth 100000 in
theorem bound_walk (l : List OpD) (A : Option Addr) (c : Nat) (w : World) (hC : kOp.C w A l.length l) (hok : ∀ o ∈ l, 0 ≤ o.2.1 ∧ o.2.1 < 18446744073709551616) :
    Calls Try.prog 4 #[.slice A l.length c] w fun e w' => e = .returned (.bool true) ∧ Below w.heap.size w w' := by
  obtain ⟨hmx, ho⟩ := O_open hC
  have HO := Lib.hid ho
  have HOK := Lib.hid hok
  clear ho hC hok
  go_enter Try.func4, Try.ntmps4
  go_wp2_with fail
  refine (new_any _).mono ?_
  rintro e w1 ⟨bs, rfl, hs1, hl1, hb1⟩
  have HS1 := Lib.hid hs1
  have HLs := Lib.hid hl1
  have HB1 := Lib.hid hb1
  clear hs1 hl1 hb1
  go_wp2_with fail
  go_loopg [4, 5, 6] (l.length + 1) (fun g v4 v5 v6 w' => ∃ (i n : Nat) (T : List Int) (A0 : Option Addr), v6 = .int .i64 i ∧ v5 = .int .u64 n ∧ Hid (i ≤ l.length ∧ l.length < g + i ∧ i ≤ 60) ∧ Hid (n ≤ T.length ∧ T.length ≤ n + 512 ∧ T.length ≤ 600 * i) ∧ Hid (StA bs n (T.drop n) A0 w') ∧ Hid ((Kd.int .u8).R 5 w' w.heap.size (fun _ => True) v4 T) ∧ Hid (Apt A0 v4) ∧ Hid (Below w.heap.size w w'))
  case atStart => exact ⟨0, 0, [], none, rfl, rfl, Lib.hid ⟨by omega, by omega, by omega⟩, Lib.hid ⟨by simp, by simp, by simp⟩, HS1, Lib.hid (Kd.R_nil _ _ _ _ _), Lib.hid (Apt.none_ _), HB1⟩
  case round =>
    clear HS1 HB1
    obtain ⟨i, n, T, A0, rfl, rfl, HJ, HN, HS, HT, HP, HB⟩ := hrel
    cases gk with
    | zero => have := HJ.out; omega
    | succ g =>
      obtain ⟨hj1, hj2, hj3⟩ := HJ.out
      clear HJ
      by_cases hlt : i < l.length ∧ i < 60
      · obtain ⟨hlt, h60⟩ := hlt
        rcases HO.out with e | ⟨bk, off, rfl, _, hcells⟩
        · subst e; simp at hlt
        obtain ⟨c0, c1', Aj, cj, c2, hcj, hCj⟩ := hcells i hlt
        have hoki := HOK.out (l.getD i zOp) (by rw [List.getD_eq_getElem?_getD, List.getElem?_eq_getElem hlt]; exact List.getElem_mem hlt)
        clear hcells
        generalize l.getD i zOp = o at c0 c1' c2 hcj hCj hoki
        obtain ⟨kk, N0, by_⟩ := o
        simp only at c0 c1' c2 hcj hCj hoki
        obtain ⟨N, rfl⟩ := Int.eq_ofNat_of_zero_le hoki.1
        have hN64 : N < 18446744073709551616 := by omega
        have K0 := Lib.hid (fun (w' : World) (h : Below w.heap.size w w') => pw_cell_below h c0)
        have K1 := Lib.hid (fun (w' : World) (h : Below w.heap.size w w') => pw_cell_below h c1')
        have K2 := Lib.hid (fun (w' : World) (h : Below w.heap.size w w') => pw_cell_below h c2)
        have HCj := Lib.hid hCj
        have HCK := Lib.hid hcj
        have HN64 := Lib.hid hN64
        have HI := Lib.hid (show i < l.length ∧ i < 60 ∧ l.length < g + 1 + i from ⟨hlt, h60, hj2⟩)
        clear c0 c1' c2 hCj hcj hoki hN64
        by_cases h6 : (600 : Int) < (by_.length : Int)
        · have t6 : decide ((600 : Int) < (by_.length : Int)) = true := by simpa using h6
          have k2 := K2.out wr HB.out
          clear h6
          go_wp2_with fail
          refine (alive_any _).mono ?_
          rintro e w3 ⟨rfl, hb3⟩
          have HB3 := Lib.hid (stay1 HB.out hb3)
          clear hb3
          go_wp2
          go_ret
          exact ⟨rfl, HB3.out⟩
        have t6 : decide ((600 : Int) < (by_.length : Int)) = false := by simpa using h6
        have HBL := Lib.hid (show by_.length ≤ 600 by omega)
        clear h6 hj1 hj2 hj3
        have hkk : kk = 0 ∨ kk = 1 ∨ ((kk == 0) = false ∧ (kk == 1) = false) := by
          by_cases a : kk = 0
          · exact .inl a
          · by_cases b : kk = 1
            · exact .inr (.inl b)
            · exact .inr (.inr ⟨by simpa using a, by simpa using b⟩)
        rcases hkk with rfl | rfl | ⟨hk0, hk1⟩
        · by_cases hf : T.length - n + by_.length ≤ 512
          · have hn := HN.out
            have k0 := K0.out wr HB.out
            have k2 := K2.out wr HB.out
            have hdl : (T.drop n).length = T.length - n := List.length_drop
            have HTY := Lib.hid (type_yesA bs n (T.drop n) by_ A0 Aj by_.length cj wr HS.out rfl (by rw [hdl]; omega) (by rw [hdl]; omega) (Kd.C_below HCj.out HB.out))
            have HAP := Lib.hid (drop_app (B := by_) hn.1)
            have HFF := Lib.hid hf
            clear hdl hn hf
            go_wp2_with fail
            refine HTY.out.mono ?_
            rintro e w2 ⟨rfl, ⟨A2, hs2, hf2⟩, hg2⟩
            replace HP := Lib.hid (HP.out.fresh hf2 (Kd.R_lt HT.out))
            replace HT := Lib.hid (R_st HT.out HS.out hg2)
            replace HB := Lib.hid (bgrow HB.out hg2 HLs.out)
            replace HS := Lib.hid hs2
            rw [HAP.out] at HS
            clear hs2 hf2 hg2 HTY k0 k2
            have k0 := K0.out w2 HB.out
            have k2 := K2.out w2 HB.out
            go_wp2_with (at_builtin; refine appn2 (w0 := w) .u8 w.heap.size (.tmp 44) (.tmp 49) 25 5 1 rfl rfl Try.underlying25 info_u8 (by decide) u4 T by_ Aj by_.length cj rfl rfl HT.out (Kd.C_below HCj.out HB.out) HB.out HB.out.size (by have := HN.out; have := HI.out; have := HBL.out; omega) ?_; intro v3 w3 ho3 hb3 hg3 hat3; (have HS3 := Lib.hid (HS.out.row hg3 (HS.out.ne HT.out) HP.out)); (have HP3 := Lib.hid (HP.out.grow HS.out.ty hat3)); (have HT3 := Lib.hid ho3); (have HB3 := Lib.hid hb3); (have k0 := K0.out w3 HB3.out); clear ho3 hb3 hg3 hat3)
            replace HS := HS3
            replace HP := HP3
            replace HT := HT3
            replace HB := HB3
            clear HS3 HP3 HT3 HB3
            have HNN := Lib.hid (show n ≤ n ∧ n ≤ ((T ++ by_)).length ∧ ((T ++ by_)).length ≤ n + 512 ∧ ((T ++ by_)).length ≤ 600 * (i + 1) from by have := HN.out; have := HFF.out; have := HBL.out; have hl : (T ++ by_).length = T.length + by_.length := List.length_append; omega)
            obtain ⟨T2, hT2⟩ : ∃ T2, (T ++ by_) = T2 := ⟨_, rfl⟩
            rw [hT2] at HS HT HNN
            clear hT2
            obtain ⟨D, hD⟩ : ∃ D, T2.drop n = D := ⟨_, rfl⟩
            have HDL := Lib.hid (show D.length = T2.length - n from by rw [← hD]; exact List.length_drop)
            rw [hD] at HS
            have HD := Lib.hid hD
            clear hD
            refine (pending_any bs n D _ HS.out.st (by have := HDL.out; have := HNN.out; omega)).mono ?_
            rintro e w4 ⟨v4p, rfl, ho4p, hb4⟩
            replace HS := Lib.hid (HS.out.below hb4)
            replace HT := Lib.hid (Kd.R_below HT.out hb4)
            replace HB := Lib.hid (stay1 HB.out hb4)
            obtain ⟨Ap, cp, rfl, hkp, hCp⟩ := Kd.R_reads ho4p
            have HPd := Lib.hid (CT.mk hCp (Ty_R ho4p))
            have KHPd := Lib.hid hkp
            clear ho4p hCp hkp
            clear hb4
            clear k0 k2
            obtain ⟨A4, c4, hv4, hk4, hC4⟩ := Kd.R_reads HT.out
            subst hv4
            obtain ⟨i0, hi0, hz0⟩ := info_of info_u8
            obtain ⟨A5, c5, hcut, hc5, hread⟩ := cutf (P := Try.prog) .u8 .u64 25 5 Try.underlying25 hi0 hz0 A4 T2.length c4 (n : Int) (T2.length - n) (by omega) (by have := HNN.out; omega) hk4
            have hC5 := (hread _ T2 rfl hC4).1
            rw [Int.toNat_natCast, HD.out] at hC5
            have HC5 := Lib.hid (show (Kd.int .u8).C w4 A5 D.length D from by rw [HDL.out]; exact hC5)
            rw [← HDL.out] at hcut
            clear hk4 hC4 hread hC5 hc5 hi0 hz0
            have t1 : decide ((n : Int) < (n : Int)) = false := decide_eq_false (by have := HNN.out; omega)
            have t2 : decide ((T2.length : Int) < (n : Int)) = false := decide_eq_false (by have := HNN.out; omega)
            have t3 : decide ((512 : Int) < (D.length : Int)) = false := decide_eq_false (by have := HNN.out; have := HDL.out; omega)
            have s1 : IntKind.u64.wrap (T2.length : Int) = T2.length := wraps_u64 _ (by omega) (by have := HNN.out; have := HI.out; omega)
            have t4 : decide (n < n) = false := decide_eq_false (by have := HNN.out; omega)
            have t5 : decide (T2.length < n) = false := decide_eq_false (by have := HNN.out; omega)
            have t7 : decide (512 < D.length) = false := decide_eq_false (by have := HNN.out; have := HDL.out; omega)
            have z1 : (0 : Int) ≤ (n : Int) := by omega
            go_wp2_with fail
            refine Q.wp_region_segs none [([0, 1, 2, 3, 4, 5, 6, 7, 8, 9, 10, 11, 12, 13, 14, 15, 16, 17, 18, 19, 20, 21, 22, 23, 24, 25, 27, 28, 29], some 26), ([30, 31], none)] (by kernel_rfl) (by kernel_rfl) (by kernel_rfl) (by kernel_rfl) ?_
            dsimp only [Q.wpSegs, Q.picks, Q.pick]
            replace HS := Lib.hid (HS.out.below (stay0 _))
            replace HT := Lib.hid (Kd.R_drew HT.out)
            replace HB := Lib.hid (HB.out.drew)
            replace HPd := Lib.hid (HPd.out.below (stay0 _))
            replace HC5 := Lib.hid (Kd.C_drew HC5.out)
            have q1 : ∀ m : Q.GW (w4).drew w4.heap.size none, (convert 25 9 (.slice Ap D.length cp)).run Try.prog m.w = .ok (.string (strOfNums D)) m.w := fun m => Kd.C_string Try.underlying25 Try.underlying5 Try.underlying9 (Kd.C_below HPd.out.C m.below)
            have q2 : ∀ m : Q.GW (w4).drew w4.heap.size none, (convert 25 9 (.slice A5 D.length c5)).run Try.prog m.w = .ok (.string (strOfNums D)) m.w := fun m => Kd.C_string Try.underlying25 Try.underlying5 Try.underlying9 (Kd.C_below HC5.out m.below)
            repeat (go_big_quiet_step (fail))
            refine wpQuiet_nil ?_
            clear t1 t2 t3 t4 t5 t7 z1 hcut
            clear q1 q2
            go_wp2_with (go_at_call 27; refine (count_as bs n D T2.length _ HS.out.st (by have := HNN.out; have := HDL.out; omega) (by have := HNN.out; have := HI.out; omega)).mono ?_; rintro e w5 ⟨rfl, hb5⟩; (have Hb5 := Lib.hid hb5); clear hb5)
            refine Q.ev_done Hb5.out (Nat.le_refl _) ?_
            replace HS := Lib.hid (HS.out.below Hb5.out)
            replace HT := Lib.hid (Kd.R_below HT.out Hb5.out)
            replace HB := Lib.hid (stay1 HB.out Hb5.out)
            replace HPd := Lib.hid (HPd.out.below Hb5.out)
            replace HC5 := Lib.hid (Kd.C_below HC5.out Hb5.out)
            clear Hb5
            repeat (go_big_quiet_step (fail))
            refine wpQuiet_nil ?_
            refine NoPanic.normal ?_
            clear s1
            go_wp2
            go_roundg g
            case measure => omega
            case rel => exact ⟨i + 1, n, T2, A2, by go_num, rfl, Lib.hid (by have := HI.out; omega), Lib.hid HNN.out.2, Lib.hid (by rw [HD.out]; exact HS.out), HT, HP, HB⟩
          · have hn := HN.out
            have k0 := K0.out wr HB.out
            have k2 := K2.out wr HB.out
            have HTY := Lib.hid (type_no bs n (T.drop n) Aj by_.length cj wr HS.out.st (by rw [List.length_drop]; omega) (by rw [List.length_drop]; omega))
            clear hn hf
            go_wp2_with fail
            refine HTY.out.mono ?_
            rintro e wx ⟨rfl, rfl⟩
            go_wp2_with fail
            have HNN := Lib.hid (show n ≤ n ∧ n ≤ (T).length ∧ (T).length ≤ n + 512 ∧ (T).length ≤ 600 * (i + 1) from by have := HN.out; omega)
            obtain ⟨T2, hT2⟩ : ∃ T2, T = T2 := ⟨_, rfl⟩
            rw [hT2] at HS HT HNN
            clear hT2
            obtain ⟨D, hD⟩ : ∃ D, T2.drop n = D := ⟨_, rfl⟩
            have HDL := Lib.hid (show D.length = T2.length - n from by rw [← hD]; exact List.length_drop)
            rw [hD] at HS
            have HD := Lib.hid hD
            clear hD
            refine (pending_any bs n D _ HS.out.st (by have := HDL.out; have := HNN.out; omega)).mono ?_
            rintro e w2 ⟨v2p, rfl, ho2p, hb2⟩
            replace HS := Lib.hid (HS.out.below hb2)
            replace HT := Lib.hid (Kd.R_below HT.out hb2)
            replace HB := Lib.hid (stay1 HB.out hb2)
            obtain ⟨Ap, cp, rfl, hkp, hCp⟩ := Kd.R_reads ho2p
            have HPd := Lib.hid (CT.mk hCp (Ty_R ho2p))
            have KHPd := Lib.hid hkp
            clear ho2p hCp hkp
            clear hb2
            clear k0 k2
            obtain ⟨A4, c4, hv4, hk4, hC4⟩ := Kd.R_reads HT.out
            subst hv4
            obtain ⟨i0, hi0, hz0⟩ := info_of info_u8
            obtain ⟨A5, c5, hcut, hc5, hread⟩ := cutf (P := Try.prog) .u8 .u64 25 5 Try.underlying25 hi0 hz0 A4 T2.length c4 (n : Int) (T2.length - n) (by omega) (by have := HNN.out; omega) hk4
            have hC5 := (hread _ T2 rfl hC4).1
            rw [Int.toNat_natCast, HD.out] at hC5
            have HC5 := Lib.hid (show (Kd.int .u8).C w2 A5 D.length D from by rw [HDL.out]; exact hC5)
            rw [← HDL.out] at hcut
            clear hk4 hC4 hread hC5 hc5 hi0 hz0
            have t1 : decide ((n : Int) < (n : Int)) = false := decide_eq_false (by have := HNN.out; omega)
            have t2 : decide ((T2.length : Int) < (n : Int)) = false := decide_eq_false (by have := HNN.out; omega)
            have t3 : decide ((512 : Int) < (D.length : Int)) = false := decide_eq_false (by have := HNN.out; have := HDL.out; omega)
            have s1 : IntKind.u64.wrap (T2.length : Int) = T2.length := wraps_u64 _ (by omega) (by have := HNN.out; have := HI.out; omega)
            have t4 : decide (n < n) = false := decide_eq_false (by have := HNN.out; omega)
            have t5 : decide (T2.length < n) = false := decide_eq_false (by have := HNN.out; omega)
            have t7 : decide (512 < D.length) = false := decide_eq_false (by have := HNN.out; have := HDL.out; omega)
            have z1 : (0 : Int) ≤ (n : Int) := by omega
            go_wp2_with fail
            refine Q.wp_region_segs none [([0, 1, 2, 3, 4, 5, 6, 7, 8, 9, 10, 11, 12, 13, 14, 15, 16, 17, 18, 19, 20, 21, 22, 23, 24, 25, 27, 28, 29], some 26), ([30, 31], none)] (by kernel_rfl) (by kernel_rfl) (by kernel_rfl) (by kernel_rfl) ?_
            dsimp only [Q.wpSegs, Q.picks, Q.pick]
            replace HS := Lib.hid (HS.out.below (stay0 _))
            replace HT := Lib.hid (Kd.R_drew HT.out)
            replace HB := Lib.hid (HB.out.drew)
            replace HPd := Lib.hid (HPd.out.below (stay0 _))
            replace HC5 := Lib.hid (Kd.C_drew HC5.out)
            have q1 : ∀ m : Q.GW (w2).drew w2.heap.size none, (convert 25 9 (.slice Ap D.length cp)).run Try.prog m.w = .ok (.string (strOfNums D)) m.w := fun m => Kd.C_string Try.underlying25 Try.underlying5 Try.underlying9 (Kd.C_below HPd.out.C m.below)
            have q2 : ∀ m : Q.GW (w2).drew w2.heap.size none, (convert 25 9 (.slice A5 D.length c5)).run Try.prog m.w = .ok (.string (strOfNums D)) m.w := fun m => Kd.C_string Try.underlying25 Try.underlying5 Try.underlying9 (Kd.C_below HC5.out m.below)
            repeat (go_big_quiet_step (fail))
            refine wpQuiet_nil ?_
            clear t1 t2 t3 t4 t5 t7 z1 hcut
            clear q1 q2
            go_wp2_with (go_at_call 27; refine (count_as bs n D T2.length _ HS.out.st (by have := HNN.out; have := HDL.out; omega) (by have := HNN.out; have := HI.out; omega)).mono ?_; rintro e w3 ⟨rfl, hb3⟩; (have Hb3 := Lib.hid hb3); clear hb3)
            refine Q.ev_done Hb3.out (Nat.le_refl _) ?_
            replace HS := Lib.hid (HS.out.below Hb3.out)
            replace HT := Lib.hid (Kd.R_below HT.out Hb3.out)
            replace HB := Lib.hid (stay1 HB.out Hb3.out)
            replace HPd := Lib.hid (HPd.out.below Hb3.out)
            replace HC5 := Lib.hid (Kd.C_below HC5.out Hb3.out)
            clear Hb3
            repeat (go_big_quiet_step (fail))
            refine wpQuiet_nil ?_
            refine NoPanic.normal ?_
            clear s1
            go_wp2
            go_roundg g
            case measure => omega
            case rel => exact ⟨i + 1, n, T2, A0, by go_num, rfl, Lib.hid (by have := HI.out; omega), Lib.hid HNN.out.2, Lib.hid (by rw [HD.out]; exact HS.out), HT, HP, HB⟩
        · have hn := HN.out
          have hdl : (T.drop n).length = T.length - n := List.length_drop
          by_cases ha : N < n
          · have HAK := Lib.hid (ack_old bs n N (T.drop n) wr HS.out.st (by omega))
            clear hn hdl ha
            have k0 := K0.out wr HB.out
            have k1 := K1.out wr HB.out
            have k2 := K2.out wr HB.out
            go_wp2_with fail
            refine HAK.out.mono ?_
            rintro e wx ⟨rfl, rfl⟩
            go_wp2_with fail
            have HNN := Lib.hid (show n ≤ n ∧ n ≤ (T).length ∧ (T).length ≤ n + 512 ∧ (T).length ≤ 600 * (i + 1) from by have := HN.out; omega)
            obtain ⟨T2, hT2⟩ : ∃ T2, T = T2 := ⟨_, rfl⟩
            rw [hT2] at HS HT HNN
            clear hT2
            obtain ⟨D, hD⟩ : ∃ D, T2.drop n = D := ⟨_, rfl⟩
            have HDL := Lib.hid (show D.length = T2.length - n from by rw [← hD]; exact List.length_drop)
            rw [hD] at HS
            have HD := Lib.hid hD
            clear hD
            refine (pending_any bs n D _ HS.out.st (by have := HDL.out; have := HNN.out; omega)).mono ?_
            rintro e w2 ⟨v2p, rfl, ho2p, hb2⟩
            replace HS := Lib.hid (HS.out.below hb2)
            replace HT := Lib.hid (Kd.R_below HT.out hb2)
            replace HB := Lib.hid (stay1 HB.out hb2)
            obtain ⟨Ap, cp, rfl, hkp, hCp⟩ := Kd.R_reads ho2p
            have HPd := Lib.hid (CT.mk hCp (Ty_R ho2p))
            have KHPd := Lib.hid hkp
            clear ho2p hCp hkp
            clear hb2
            clear k0 k1 k2
            obtain ⟨A4, c4, hv4, hk4, hC4⟩ := Kd.R_reads HT.out
            subst hv4
            obtain ⟨i0, hi0, hz0⟩ := info_of info_u8
            obtain ⟨A5, c5, hcut, hc5, hread⟩ := cutf (P := Try.prog) .u8 .u64 25 5 Try.underlying25 hi0 hz0 A4 T2.length c4 (n : Int) (T2.length - n) (by omega) (by have := HNN.out; omega) hk4
            have hC5 := (hread _ T2 rfl hC4).1
            rw [Int.toNat_natCast, HD.out] at hC5
            have HC5 := Lib.hid (show (Kd.int .u8).C w2 A5 D.length D from by rw [HDL.out]; exact hC5)
            rw [← HDL.out] at hcut
            clear hk4 hC4 hread hC5 hc5 hi0 hz0
            have t1 : decide ((n : Int) < (n : Int)) = false := decide_eq_false (by have := HNN.out; omega)
            have t2 : decide ((T2.length : Int) < (n : Int)) = false := decide_eq_false (by have := HNN.out; omega)
            have t3 : decide ((512 : Int) < (D.length : Int)) = false := decide_eq_false (by have := HNN.out; have := HDL.out; omega)
            have s1 : IntKind.u64.wrap (T2.length : Int) = T2.length := wraps_u64 _ (by omega) (by have := HNN.out; have := HI.out; omega)
            have t4 : decide (n < n) = false := decide_eq_false (by have := HNN.out; omega)
            have t5 : decide (T2.length < n) = false := decide_eq_false (by have := HNN.out; omega)
            have t7 : decide (512 < D.length) = false := decide_eq_false (by have := HNN.out; have := HDL.out; omega)
            have z1 : (0 : Int) ≤ (n : Int) := by omega
            go_wp2_with fail
            refine Q.wp_region_segs none [([0, 1, 2, 3, 4, 5, 6, 7, 8, 9, 10, 11, 12, 13, 14, 15, 16, 17, 18, 19, 20, 21, 22, 23, 24, 25, 27, 28, 29], some 26), ([30, 31], none)] (by kernel_rfl) (by kernel_rfl) (by kernel_rfl) (by kernel_rfl) ?_
            dsimp only [Q.wpSegs, Q.picks, Q.pick]
            replace HS := Lib.hid (HS.out.below (stay0 _))
            replace HT := Lib.hid (Kd.R_drew HT.out)
            replace HB := Lib.hid (HB.out.drew)
            replace HPd := Lib.hid (HPd.out.below (stay0 _))
            replace HC5 := Lib.hid (Kd.C_drew HC5.out)
            have q1 : ∀ m : Q.GW (w2).drew w2.heap.size none, (convert 25 9 (.slice Ap D.length cp)).run Try.prog m.w = .ok (.string (strOfNums D)) m.w := fun m => Kd.C_string Try.underlying25 Try.underlying5 Try.underlying9 (Kd.C_below HPd.out.C m.below)
            have q2 : ∀ m : Q.GW (w2).drew w2.heap.size none, (convert 25 9 (.slice A5 D.length c5)).run Try.prog m.w = .ok (.string (strOfNums D)) m.w := fun m => Kd.C_string Try.underlying25 Try.underlying5 Try.underlying9 (Kd.C_below HC5.out m.below)
            repeat (go_big_quiet_step (fail))
            refine wpQuiet_nil ?_
            clear t1 t2 t3 t4 t5 t7 z1 hcut
            clear q1 q2
            go_wp2_with (go_at_call 27; refine (count_as bs n D T2.length _ HS.out.st (by have := HNN.out; have := HDL.out; omega) (by have := HNN.out; have := HI.out; omega)).mono ?_; rintro e w3 ⟨rfl, hb3⟩; (have Hb3 := Lib.hid hb3); clear hb3)
            refine Q.ev_done Hb3.out (Nat.le_refl _) ?_
            replace HS := Lib.hid (HS.out.below Hb3.out)
            replace HT := Lib.hid (Kd.R_below HT.out Hb3.out)
            replace HB := Lib.hid (stay1 HB.out Hb3.out)
            replace HPd := Lib.hid (HPd.out.below Hb3.out)
            replace HC5 := Lib.hid (Kd.C_below HC5.out Hb3.out)
            clear Hb3
            repeat (go_big_quiet_step (fail))
            refine wpQuiet_nil ?_
            refine NoPanic.normal ?_
            clear s1
            go_wp2
            go_roundg g
            case measure => omega
            case rel => exact ⟨i + 1, n, T2, A0, by go_num, rfl, Lib.hid (by have := HI.out; omega), Lib.hid HNN.out.2, Lib.hid (by rw [HD.out]; exact HS.out), HT, HP, HB⟩
          by_cases hb : T.length < N
          · have HAK := Lib.hid (ack_arg bs n N (T.drop n) wr HS.out.st (by omega) (by rw [hdl]; have := HI.out; omega) (by rw [hdl]; omega))
            clear hn hdl ha hb
            have k0 := K0.out wr HB.out
            have k1 := K1.out wr HB.out
            have k2 := K2.out wr HB.out
            go_wp2_with fail
            refine HAK.out.mono ?_
            rintro e w2 ⟨rfl, hb2⟩
            replace HS := Lib.hid (HS.out.below hb2)
            replace HT := Lib.hid (Kd.R_below HT.out hb2)
            replace HB := Lib.hid (stay1 HB.out hb2)
            clear hb2
            go_wp2_with fail
            have HNN := Lib.hid (show n ≤ n ∧ n ≤ (T).length ∧ (T).length ≤ n + 512 ∧ (T).length ≤ 600 * (i + 1) from by have := HN.out; omega)
            obtain ⟨T2, hT2⟩ : ∃ T2, T = T2 := ⟨_, rfl⟩
            rw [hT2] at HS HT HNN
            clear hT2
            obtain ⟨D, hD⟩ : ∃ D, T2.drop n = D := ⟨_, rfl⟩
            have HDL := Lib.hid (show D.length = T2.length - n from by rw [← hD]; exact List.length_drop)
            rw [hD] at HS
            have HD := Lib.hid hD
            clear hD
            refine (pending_any bs n D _ HS.out.st (by have := HDL.out; have := HNN.out; omega)).mono ?_
            rintro e w3 ⟨v3p, rfl, ho3p, hb3⟩
            replace HS := Lib.hid (HS.out.below hb3)
            replace HT := Lib.hid (Kd.R_below HT.out hb3)
            replace HB := Lib.hid (stay1 HB.out hb3)
            obtain ⟨Ap, cp, rfl, hkp, hCp⟩ := Kd.R_reads ho3p
            have HPd := Lib.hid (CT.mk hCp (Ty_R ho3p))
            have KHPd := Lib.hid hkp
            clear ho3p hCp hkp
            clear hb3
            clear k0 k1 k2
            obtain ⟨A4, c4, hv4, hk4, hC4⟩ := Kd.R_reads HT.out
            subst hv4
            obtain ⟨i0, hi0, hz0⟩ := info_of info_u8
            obtain ⟨A5, c5, hcut, hc5, hread⟩ := cutf (P := Try.prog) .u8 .u64 25 5 Try.underlying25 hi0 hz0 A4 T2.length c4 (n : Int) (T2.length - n) (by omega) (by have := HNN.out; omega) hk4
            have hC5 := (hread _ T2 rfl hC4).1
            rw [Int.toNat_natCast, HD.out] at hC5
            have HC5 := Lib.hid (show (Kd.int .u8).C w3 A5 D.length D from by rw [HDL.out]; exact hC5)
            rw [← HDL.out] at hcut
            clear hk4 hC4 hread hC5 hc5 hi0 hz0
            have t1 : decide ((n : Int) < (n : Int)) = false := decide_eq_false (by have := HNN.out; omega)
            have t2 : decide ((T2.length : Int) < (n : Int)) = false := decide_eq_false (by have := HNN.out; omega)
            have t3 : decide ((512 : Int) < (D.length : Int)) = false := decide_eq_false (by have := HNN.out; have := HDL.out; omega)
            have s1 : IntKind.u64.wrap (T2.length : Int) = T2.length := wraps_u64 _ (by omega) (by have := HNN.out; have := HI.out; omega)
            have t4 : decide (n < n) = false := decide_eq_false (by have := HNN.out; omega)
            have t5 : decide (T2.length < n) = false := decide_eq_false (by have := HNN.out; omega)
            have t7 : decide (512 < D.length) = false := decide_eq_false (by have := HNN.out; have := HDL.out; omega)
            have z1 : (0 : Int) ≤ (n : Int) := by omega
            go_wp2_with fail
            refine Q.wp_region_segs none [([0, 1, 2, 3, 4, 5, 6, 7, 8, 9, 10, 11, 12, 13, 14, 15, 16, 17, 18, 19, 20, 21, 22, 23, 24, 25, 27, 28, 29], some 26), ([30, 31], none)] (by kernel_rfl) (by kernel_rfl) (by kernel_rfl) (by kernel_rfl) ?_
            dsimp only [Q.wpSegs, Q.picks, Q.pick]
            replace HS := Lib.hid (HS.out.below (stay0 _))
            replace HT := Lib.hid (Kd.R_drew HT.out)
            replace HB := Lib.hid (HB.out.drew)
            replace HPd := Lib.hid (HPd.out.below (stay0 _))
            replace HC5 := Lib.hid (Kd.C_drew HC5.out)
            have q1 : ∀ m : Q.GW (w3).drew w3.heap.size none, (convert 25 9 (.slice Ap D.length cp)).run Try.prog m.w = .ok (.string (strOfNums D)) m.w := fun m => Kd.C_string Try.underlying25 Try.underlying5 Try.underlying9 (Kd.C_below HPd.out.C m.below)
            have q2 : ∀ m : Q.GW (w3).drew w3.heap.size none, (convert 25 9 (.slice A5 D.length c5)).run Try.prog m.w = .ok (.string (strOfNums D)) m.w := fun m => Kd.C_string Try.underlying25 Try.underlying5 Try.underlying9 (Kd.C_below HC5.out m.below)
            repeat (go_big_quiet_step (fail))
            refine wpQuiet_nil ?_
            clear t1 t2 t3 t4 t5 t7 z1 hcut
            clear q1 q2
            go_wp2_with (go_at_call 27; refine (count_as bs n D T2.length _ HS.out.st (by have := HNN.out; have := HDL.out; omega) (by have := HNN.out; have := HI.out; omega)).mono ?_; rintro e w4 ⟨rfl, hb4⟩; (have Hb4 := Lib.hid hb4); clear hb4)
            refine Q.ev_done Hb4.out (Nat.le_refl _) ?_
            replace HS := Lib.hid (HS.out.below Hb4.out)
            replace HT := Lib.hid (Kd.R_below HT.out Hb4.out)
            replace HB := Lib.hid (stay1 HB.out Hb4.out)
            replace HPd := Lib.hid (HPd.out.below Hb4.out)
            replace HC5 := Lib.hid (Kd.C_below HC5.out Hb4.out)
            clear Hb4
            repeat (go_big_quiet_step (fail))
            refine wpQuiet_nil ?_
            refine NoPanic.normal ?_
            clear s1
            go_wp2
            go_roundg g
            case measure => omega
            case rel => exact ⟨i + 1, n, T2, A0, by go_num, rfl, Lib.hid (by have := HI.out; omega), Lib.hid HNN.out.2, Lib.hid (by rw [HD.out]; exact HS.out), HT, HP, HB⟩
          have HAK := Lib.hid (ack_okA bs n N (T.drop n) A0 wr HS.out (by omega) (by rw [hdl]; have := HI.out; omega) (by omega) (by rw [hdl]; omega) (by rw [hdl]; omega))
          have HDD := Lib.hid (show (T.drop n).drop ((N : Int) - (n : Int)).toNat = T.drop N from by rw [List.drop_drop]; congr 1; omega)
          have HNQ := Lib.hid (show n ≤ N ∧ N ≤ T.length from by omega)
          clear hn hdl ha hb
          have k0 := K0.out wr HB.out
          have k1 := K1.out wr HB.out
          have k2 := K2.out wr HB.out
          go_wp2_with fail
          refine HAK.out.mono ?_
          rintro e w2 ⟨rfl, ⟨A2, hs2, hf2⟩, hg2⟩
          replace HP := Lib.hid (HP.out.fresh hf2 (Kd.R_lt HT.out))
          replace HT := Lib.hid (R_st HT.out HS.out hg2)
          replace HB := Lib.hid (bgrow HB.out hg2 HLs.out)
          replace HS := Lib.hid hs2
          rw [HDD.out] at HS
          clear hs2 hf2 hg2 HAK
          go_wp2_with fail
          have HNN := Lib.hid (show n ≤ N ∧ N ≤ (T).length ∧ (T).length ≤ N + 512 ∧ (T).length ≤ 600 * (i + 1) from by have := HN.out; have := HNQ.out; omega)
          obtain ⟨T2, hT2⟩ : ∃ T2, T = T2 := ⟨_, rfl⟩
          rw [hT2] at HS HT HNN
          clear hT2
          obtain ⟨D, hD⟩ : ∃ D, T2.drop N = D := ⟨_, rfl⟩
          have HDL := Lib.hid (show D.length = T2.length - N from by rw [← hD]; exact List.length_drop)
          rw [hD] at HS
          have HD := Lib.hid hD
          clear hD
          refine (pending_any bs N D _ HS.out.st (by have := HDL.out; have := HNN.out; omega)).mono ?_
          rintro e w3 ⟨v3p, rfl, ho3p, hb3⟩
          replace HS := Lib.hid (HS.out.below hb3)
          replace HT := Lib.hid (Kd.R_below HT.out hb3)
          replace HB := Lib.hid (stay1 HB.out hb3)
          obtain ⟨Ap, cp, rfl, hkp, hCp⟩ := Kd.R_reads ho3p
          have HPd := Lib.hid (CT.mk hCp (Ty_R ho3p))
          have KHPd := Lib.hid hkp
          clear ho3p hCp hkp
          clear hb3
          clear k0 k1 k2
          obtain ⟨A4, c4, hv4, hk4, hC4⟩ := Kd.R_reads HT.out
          subst hv4
          obtain ⟨i0, hi0, hz0⟩ := info_of info_u8
          obtain ⟨A5, c5, hcut, hc5, hread⟩ := cutf (P := Try.prog) .u8 .u64 25 5 Try.underlying25 hi0 hz0 A4 T2.length c4 (N : Int) (T2.length - N) (by omega) (by have := HNN.out; omega) hk4
          have hC5 := (hread _ T2 rfl hC4).1
          rw [Int.toNat_natCast, HD.out] at hC5
          have HC5 := Lib.hid (show (Kd.int .u8).C w3 A5 D.length D from by rw [HDL.out]; exact hC5)
          rw [← HDL.out] at hcut
          clear hk4 hC4 hread hC5 hc5 hi0 hz0
          have t1 : decide ((N : Int) < (n : Int)) = false := decide_eq_false (by have := HNN.out; omega)
          have t2 : decide ((T2.length : Int) < (N : Int)) = false := decide_eq_false (by have := HNN.out; omega)
          have t3 : decide ((512 : Int) < (D.length : Int)) = false := decide_eq_false (by have := HNN.out; have := HDL.out; omega)
          have s1 : IntKind.u64.wrap (T2.length : Int) = T2.length := wraps_u64 _ (by omega) (by have := HNN.out; have := HI.out; omega)
          have t4 : decide (N < n) = false := decide_eq_false (by have := HNN.out; omega)
          have t5 : decide (T2.length < N) = false := decide_eq_false (by have := HNN.out; omega)
          have t7 : decide (512 < D.length) = false := decide_eq_false (by have := HNN.out; have := HDL.out; omega)
          have z1 : (0 : Int) ≤ (N : Int) := by omega
          go_wp2_with fail
          refine Q.wp_region_segs none [([0, 1, 2, 3, 4, 5, 6, 7, 8, 9, 10, 11, 12, 13, 14, 15, 16, 17, 18, 19, 20, 21, 22, 23, 24, 25, 27, 28, 29], some 26), ([30, 31], none)] (by kernel_rfl) (by kernel_rfl) (by kernel_rfl) (by kernel_rfl) ?_
          dsimp only [Q.wpSegs, Q.picks, Q.pick]
          replace HS := Lib.hid (HS.out.below (stay0 _))
          replace HT := Lib.hid (Kd.R_drew HT.out)
          replace HB := Lib.hid (HB.out.drew)
          replace HPd := Lib.hid (HPd.out.below (stay0 _))
          replace HC5 := Lib.hid (Kd.C_drew HC5.out)
          have q1 : ∀ m : Q.GW (w3).drew w3.heap.size none, (convert 25 9 (.slice Ap D.length cp)).run Try.prog m.w = .ok (.string (strOfNums D)) m.w := fun m => Kd.C_string Try.underlying25 Try.underlying5 Try.underlying9 (Kd.C_below HPd.out.C m.below)
          have q2 : ∀ m : Q.GW (w3).drew w3.heap.size none, (convert 25 9 (.slice A5 D.length c5)).run Try.prog m.w = .ok (.string (strOfNums D)) m.w := fun m => Kd.C_string Try.underlying25 Try.underlying5 Try.underlying9 (Kd.C_below HC5.out m.below)
          repeat (go_big_quiet_step (fail))
          refine wpQuiet_nil ?_
          clear t1 t2 t3 t4 t5 t7 z1 hcut
          clear q1 q2
          go_wp2_with (go_at_call 27; refine (count_as bs N D T2.length _ HS.out.st (by have := HNN.out; have := HDL.out; omega) (by have := HNN.out; have := HI.out; omega)).mono ?_; rintro e w4 ⟨rfl, hb4⟩; (have Hb4 := Lib.hid hb4); clear hb4)
          refine Q.ev_done Hb4.out (Nat.le_refl _) ?_
          replace HS := Lib.hid (HS.out.below Hb4.out)
          replace HT := Lib.hid (Kd.R_below HT.out Hb4.out)
          replace HB := Lib.hid (stay1 HB.out Hb4.out)
          replace HPd := Lib.hid (HPd.out.below Hb4.out)
          replace HC5 := Lib.hid (Kd.C_below HC5.out Hb4.out)
          clear Hb4
          repeat (go_big_quiet_step (fail))
          refine wpQuiet_nil ?_
          refine NoPanic.normal ?_
          clear s1
          go_wp2
          go_roundg g
          case measure => omega
          case rel => exact ⟨i + 1, N, T2, A2, by go_num, rfl, Lib.hid (by have := HI.out; omega), Lib.hid HNN.out.2, Lib.hid (by rw [HD.out]; exact HS.out), HT, HP, HB⟩
        · have hz := HN.out
          clear hz
          have k0 := K0.out wr HB.out
          have k2 := K2.out wr HB.out
          go_wp2_with fail
          have HNN := Lib.hid (show n ≤ n ∧ n ≤ (T).length ∧ (T).length ≤ n + 512 ∧ (T).length ≤ 600 * (i + 1) from by have := HN.out; omega)
          obtain ⟨T2, hT2⟩ : ∃ T2, T = T2 := ⟨_, rfl⟩
          rw [hT2] at HS HT HNN
          clear hT2
          obtain ⟨D, hD⟩ : ∃ D, T2.drop n = D := ⟨_, rfl⟩
          have HDL := Lib.hid (show D.length = T2.length - n from by rw [← hD]; exact List.length_drop)
          rw [hD] at HS
          have HD := Lib.hid hD
          clear hD
          refine (pending_any bs n D _ HS.out.st (by have := HDL.out; have := HNN.out; omega)).mono ?_
          rintro e w2 ⟨v2p, rfl, ho2p, hb2⟩
          replace HS := Lib.hid (HS.out.below hb2)
          replace HT := Lib.hid (Kd.R_below HT.out hb2)
          replace HB := Lib.hid (stay1 HB.out hb2)
          obtain ⟨Ap, cp, rfl, hkp, hCp⟩ := Kd.R_reads ho2p
          have HPd := Lib.hid (CT.mk hCp (Ty_R ho2p))
          have KHPd := Lib.hid hkp
          clear ho2p hCp hkp
          clear hb2
          clear k0 k2
          obtain ⟨A4, c4, hv4, hk4, hC4⟩ := Kd.R_reads HT.out
          subst hv4
          obtain ⟨i0, hi0, hz0⟩ := info_of info_u8
          obtain ⟨A5, c5, hcut, hc5, hread⟩ := cutf (P := Try.prog) .u8 .u64 25 5 Try.underlying25 hi0 hz0 A4 T2.length c4 (n : Int) (T2.length - n) (by omega) (by have := HNN.out; omega) hk4
          have hC5 := (hread _ T2 rfl hC4).1
          rw [Int.toNat_natCast, HD.out] at hC5
          have HC5 := Lib.hid (show (Kd.int .u8).C w2 A5 D.length D from by rw [HDL.out]; exact hC5)
          rw [← HDL.out] at hcut
          clear hk4 hC4 hread hC5 hc5 hi0 hz0
          have t1 : decide ((n : Int) < (n : Int)) = false := decide_eq_false (by have := HNN.out; omega)
          have t2 : decide ((T2.length : Int) < (n : Int)) = false := decide_eq_false (by have := HNN.out; omega)
          have t3 : decide ((512 : Int) < (D.length : Int)) = false := decide_eq_false (by have := HNN.out; have := HDL.out; omega)
          have s1 : IntKind.u64.wrap (T2.length : Int) = T2.length := wraps_u64 _ (by omega) (by have := HNN.out; have := HI.out; omega)
          have t4 : decide (n < n) = false := decide_eq_false (by have := HNN.out; omega)
          have t5 : decide (T2.length < n) = false := decide_eq_false (by have := HNN.out; omega)
          have t7 : decide (512 < D.length) = false := decide_eq_false (by have := HNN.out; have := HDL.out; omega)
          have z1 : (0 : Int) ≤ (n : Int) := by omega
          go_wp2_with fail
          refine Q.wp_region_segs none [([0, 1, 2, 3, 4, 5, 6, 7, 8, 9, 10, 11, 12, 13, 14, 15, 16, 17, 18, 19, 20, 21, 22, 23, 24, 25, 27, 28, 29], some 26), ([30, 31], none)] (by kernel_rfl) (by kernel_rfl) (by kernel_rfl) (by kernel_rfl) ?_
          dsimp only [Q.wpSegs, Q.picks, Q.pick]
          replace HS := Lib.hid (HS.out.below (stay0 _))
          replace HT := Lib.hid (Kd.R_drew HT.out)
          replace HB := Lib.hid (HB.out.drew)
          replace HPd := Lib.hid (HPd.out.below (stay0 _))
          replace HC5 := Lib.hid (Kd.C_drew HC5.out)
          have q1 : ∀ m : Q.GW (w2).drew w2.heap.size none, (convert 25 9 (.slice Ap D.length cp)).run Try.prog m.w = .ok (.string (strOfNums D)) m.w := fun m => Kd.C_string Try.underlying25 Try.underlying5 Try.underlying9 (Kd.C_below HPd.out.C m.below)
          have q2 : ∀ m : Q.GW (w2).drew w2.heap.size none, (convert 25 9 (.slice A5 D.length c5)).run Try.prog m.w = .ok (.string (strOfNums D)) m.w := fun m => Kd.C_string Try.underlying25 Try.underlying5 Try.underlying9 (Kd.C_below HC5.out m.below)
          repeat (go_big_quiet_step (fail))
          refine wpQuiet_nil ?_
          clear t1 t2 t3 t4 t5 t7 z1 hcut
          clear q1 q2
          go_wp2_with (go_at_call 27; refine (count_as bs n D T2.length _ HS.out.st (by have := HNN.out; have := HDL.out; omega) (by have := HNN.out; have := HI.out; omega)).mono ?_; rintro e w3 ⟨rfl, hb3⟩; (have Hb3 := Lib.hid hb3); clear hb3)
          refine Q.ev_done Hb3.out (Nat.le_refl _) ?_
          replace HS := Lib.hid (HS.out.below Hb3.out)
          replace HT := Lib.hid (Kd.R_below HT.out Hb3.out)
          replace HB := Lib.hid (stay1 HB.out Hb3.out)
          replace HPd := Lib.hid (HPd.out.below Hb3.out)
          replace HC5 := Lib.hid (Kd.C_below HC5.out Hb3.out)
          clear Hb3
          repeat (go_big_quiet_step (fail))
          refine wpQuiet_nil ?_
          refine NoPanic.normal ?_
          clear s1
          go_wp2
          go_roundg g
          case measure => omega
          case rel => exact ⟨i + 1, n, T2, A0, by go_num, rfl, Lib.hid (by have := HI.out; omega), Lib.hid HNN.out.2, Lib.hid (by rw [HD.out]; exact HS.out), HT, HP, HB⟩
      · clear HO HOK
        have hex : ¬ i < l.length ∨ (i < l.length ∧ ¬ i < 60) := by omega
        clear hlt
        rcases hex with hx | ⟨hx, hx2⟩
        all_goals
          go_wp2_with fail
          refine (alive_any _).mono ?_
          rintro e w3 ⟨rfl, hb3⟩
          have HB3 := Lib.hid (stay1 HB.out hb3)
          clear hb3
          go_wp2
          go_ret
          exact ⟨rfl, HB3.out⟩
end Go.Proofs.Ytigbmbmngkmdlaa.Ke
