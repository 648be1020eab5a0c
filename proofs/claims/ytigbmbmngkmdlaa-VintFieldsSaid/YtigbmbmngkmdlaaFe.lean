/-
  vint: the law VintFields, walked.
-/
import Derived.Test.YtigbmbmngkmdlaaFd
import Derived.Test.YtigbmbmngkmdlaaVl
namespace Go.Proofs.Ytigbmbmngkmdlaa.V
open Go.RowKit Go.Proofs.Ytigbmbmngkmdlaa.L Go.Proofs.YtigbmbmngkmdlaaW.PrintWords

theorem fldsL_le : ∀ (k : Nat) (r : List Int) (acc : List Fld), acc.length ≤ 128 → (fldsL k r acc).1.length ≤ 128
  | 0, _, acc, h => by simpa [fldsL] using h
  | k + 1, [], acc, h => by simpa [fldsL] using h
  | k + 1, t :: r, acc, h => by
    rw [fldsL]
    split
    · simp
    · split
      · simp
      · split
        · simp
        · split
          · simp
          · exact fldsL_le k _ _ (by simp; omega)

set_option maxHeartbeats 6400000 in
set_option maxRecDepth 100000 in
theorem vfields_walk (l : List Fld) (A : Option Addr) (c : Nat) (b : List Int) (Ab : Option Addr) (cb : Nat) (tag : Int) (w : World) (hC : kF.C w A l.length l) (hs : l.length * 32 ≤ 140737488351232) (hCb : (Kd.int .u8).C w Ab b.length b) (hcb : b.length ≤ cb) (hb : okB b)
    (hsb : b.length ≤ 140737488351232) :
    Calls Try.prog 14 #[.slice A l.length c, .slice Ab b.length cb, .int .u8 tag] w fun e w' => e = .returned (.bool true) ∧ Below w.heap.size w w' := by
  have hG := great_any l A c w hC
  cases hg : greatL l.length l 0 with
  | true =>
    rw [hg] at hG
    have HG := Lib.hid hG
    clear hG hg
    go_enter Try.func14, Try.ntmps14
    go_wp2_with fail
    refine HG.out.mono ?_
    rintro e w0 ⟨rfl, rfl⟩
    go_wp2_with fail
    refine (alive01 _).mono ?_
    rintro e w3 ⟨rfl, hb3⟩
    go_wp2
    go_ret
    exact ⟨rfl, hb3⟩
  | false =>
  rw [hg] at hG
  have HG := Lib.hid hG
  have hgs := great_spec hg (Int.le_refl 0)
  clear hG hg
  by_cases h4 : (40000 : Int) < (b.length : Int)
  · go_enter Try.func14, Try.ntmps14
    go_wp2_with fail
    refine HG.out.mono ?_
    rintro e w0 ⟨rfl, rfl⟩
    go_wp2_with fail
    refine (alive01 _).mono ?_
    rintro e w3 ⟨rfl, hb3⟩
    go_wp2
    go_ret
    exact ⟨rfl, hb3⟩
  have t4 : decide ((40000 : Int) < (b.length : Int)) = false := by simpa using h4
  have HC := Lib.hid hC
  have HC0 := Lib.hid hC
  have HCb := Lib.hid hCb
  have HS := Lib.hid hs
  have HK := Lib.hid hcb
  have HSb := Lib.hid hsb
  have HOK := Lib.hid hb
  have HGS := Lib.hid hgs.2
  have HP := Lib.hid (putfields_any l A c w hC)
  have HP2 := Lib.hid (fun (w' : World) (A' : Option Addr) (c' : Nat) (h : kF.C w' A' l.length l) => rputfields_any l A' c' w' h)
  have HF := Lib.hid (fun (w' : World) (A' : Option Addr) (c' : Nat) (h : (Kd.int .u8).C w' A' b.length b) (h' : b.length ≤ c') => fields_any b A' c' w' h h' hb hsb)
  have HF2 := Lib.hid (fun (w' : World) (h : Below w.heap.size w w') => rfields_any b Ab cb w' (Kd.C_below hCb h) hcb hb hsb)
  have HD := Lib.hid (fun (w' : World) (h : Below w.heap.size w w') => find_any l A c tag w' (Kd.C_below hC h) (fun f hf => by have := hgs.2 f hf; omega))
  have HD2 := Lib.hid (fun (w' : World) (A' : Option Addr) (c' : Nat) (h : kF.C w' A' l.length l) => rfind_any l A' c' tag w' h)
  generalize pfR l = PR at HP HP2
  obtain ⟨px, pe⟩ := PR
  generalize hfr : fldsR b = FR at HF HF2
  have hfl : FR.1.length * 32 ≤ 140737488351232 := by
    have := fldsL_le (b.length + 1) b [] (by simp)
    rw [show fldsL (b.length + 1) b [] = FR from hfr] at this
    omega
  have HFL := Lib.hid hfl
  clear hfr hfl
  obtain ⟨fl, fe⟩ := FR
  generalize findL tag l = fo at HD HD2
  clear hC hCb hs hcb hb hgs h4 hsb
  go_enter Try.func14, Try.ntmps14
  go_wp2_with fail
  refine HG.out.mono ?_
  rintro e w0 ⟨rfl, rfl⟩
  go_wp2_with fail
  refine HP.out.mono ?_
  rintro e w1 ⟨v1, rfl, ho1, hb1⟩
  obtain ⟨A1, c1, rfl, _, hC1⟩ := Kd.R_reads ho1
  have HB1 := Lib.hid hb1
  have HC1 := Lib.hid hC1
  clear ho1 hb1 hC1
  go_wp2_with fail
  refine (as_any l A c _ (Kd.C_below HC.out HB1.out) HS.out).mono ?_
  rintro e w2 ⟨A2, c2, rfl, hC2, hb2⟩
  have HB2 := Lib.hid (stay1 HB1.out hb2)
  have HC1b := Lib.hid (Kd.C_below HC1.out hb2)
  have HC2 := Lib.hid hC2
  clear hb2 hC2 HC1
  go_wp2_with fail
  refine (HP2.out _ _ _ HC2.out).mono ?_
  rintro e w3 ⟨v3, rfl, ho3, hb3⟩
  obtain ⟨A3, c3, rfl, _, hC3⟩ := Kd.R_reads ho3
  have HB3 := Lib.hid (stay1 HB2.out hb3)
  have HC1 := Lib.hid (Kd.C_below HC1b.out hb3)
  have HC3 := Lib.hid hC3
  clear hb3 hC3 ho3 HC1b HC2
  go_wp2_with (first
    | (at_builtin; refine appn (w0 := w3) .u8 w3.heap.size (.tmp 40) (.tmp 41) 25 5 1 rfl rfl Try.underlying25 info_u8 (by decide) (.slice (some ⟨w3.heap.size, 0, none⟩) 0 0) [] b _ _ _ rfl rfl (R_empty (Nat.le_refl _) _ rfl) (Kd.C_alloc (Kd.C_below HCb.out HB3.out) _) ((Below.refl _ _).alloc (Nat.le_refl _) _) (by simp) (by have := HSb.out; simp; omega) ?_; intro v4 w4 ho4 hb4 _; (have HB4 := Lib.hid hb4); (have HO4 := Lib.hid ho4); obtain ⟨A4, c4, rfl, hc4, hC4⟩ := Kd.R_reads ho4; (have HC4 := Lib.hid hC4); (have HL4 := Lib.hid hc4); clear ho4 hb4 hC4 hc4)
    | (go_at_call 55; refine (HF.out _ _ _ HC4.out HL4.out).mono ?_; rintro e w5 ⟨v5, rfl, ho5, hb5⟩; (have HB5 := Lib.hid hb5); (have HO5 := Lib.hid ho5); clear ho5 hb5))
  have HS4 := Lib.hid (show ∀ k, (Value.slice A4 b.length c4).ownBlock = some k → k < w4.heap.size from fun k hk => Kd.R_lt HO4.out k hk)
  have HW5 := Lib.hid (HB4.out.trans (HB5.out.mono HB4.out.size))
  have HO4' := Lib.hid (Kd.R_below HO4.out HB5.out)
  clear HC4 HL4 HF HP HP2 HB1 HB4 HB5 HC HCb HG HOK HK HSb
  go_loopg [14] (b.length + 1) (fun g v14 w' => ∃ (ys : List Int) (j : Nat), v14 = .int .i64 j ∧ Hid (j ≤ b.length ∧ b.length < g + j) ∧ Hid ((Kd.int .u8).R 5 w' w3.heap.size (fun _ => True) (.slice A4 b.length c4) ys) ∧ Hid (kF.R 90 w' w4.heap.size (fun _ => True) v5 fl) ∧ Hid (Below w3.heap.size w3 w'))
  case atStart => exact ⟨b, 0, rfl, Lib.hid ⟨by omega, by omega⟩, HO4', HO5, HW5⟩
  case round =>
    obtain ⟨ys, j, rfl, HJ, HY, HV, HBr⟩ := hrel
    cases gk with
    | zero => have := HJ.out; omega
    | succ g =>
      obtain ⟨hj1, hj2⟩ := HJ.out
      clear HJ
      by_cases hlt : j < b.length
      · obtain ⟨hlen, _⟩ := Kd.R_reads' HY.out
        obtain ⟨g0, cap, hA, hg0, hg1, _⟩ := Kd.R_form HY.out (by omega)
        obtain rfl : A4 = some ⟨g0, 0, none⟩ := by injection hA
        clear hA hlen
        obtain ⟨hcc, hff⟩ := Kd.R_celln (0 : Int) HY.out j (by omega) (by omega)
        clear hg1
        generalize rdOf 0 ys j = x at hcc
        simp only [Int.toNat_natCast] at hcc hff
        have h4n : (b.length : Int) ≤ 40000 := by simpa using t4
        go_wp2
        go_roundg g
        case measure => omega
        case rel =>
          have hp := Kd.R_putg HY.out j (bits .xor .u8 x 255)
          rw [Int.toNat_natCast] at hp
          exact ⟨_, j + 1, by go_num, Lib.hid ⟨by omega, by omega⟩, Lib.hid hp.1, Lib.hid (R_newer HV.out HS4.out (Nat.le_refl _) hp.2), Lib.hid (HBr.out.setCell hg0 _)⟩
      · clear HY HS4 hj1 hj2
        obtain ⟨A5, c5, rfl, _, hC5⟩ := Kd.R_reads HV.out
        have HC5 := Lib.hid hC5
        have HWr := Lib.hid (HB3.out.trans (HBr.out.mono HB3.out.size))
        clear hC5 HV
        go_wp2_with (first
          | (go_at_call 59; refine (HF2.out _ HWr.out).mono ?_; rintro e w6 ⟨A6, c6, rfl, hC6, hb6⟩; (have HB6 := Lib.hid hb6); (have HW6 := Lib.hid (stay1 HWr.out hb6)); (have HC6 := Lib.hid hC6); clear hb6 hC6)
          | (go_at_call 53; refine (HD.out _ HW6.out).mono ?_; rintro e w7 ⟨v7, rfl, ho7, hb7⟩; obtain ⟨A7, c7, rfl, _, hC7⟩ := Kd.R_reads ho7; (have HB7 := Lib.hid hb7); (have HW7 := Lib.hid (stay1 HW6.out hb7)); (have HC7 := Lib.hid hC7); clear hb7 hC7 ho7)
          | (go_at_call 57; refine (as_any l A c _ (Kd.C_below HC0.out HW7.out) HS.out).mono ?_; rintro e w8 ⟨A8, c8, rfl, hC8, hb8⟩; (have HB8 := Lib.hid hb8); (have HC8 := Lib.hid hC8); clear hb8 hC8)
          | (go_at_call 60; refine (HD2.out _ _ _ HC8.out).mono ?_; rintro e w9 ⟨A9, c9, rfl, hC9, rfl⟩; (have HC9 := Lib.hid hC9); clear hC9))
        have HC1z := Lib.hid (show ∀ w', Below w3.heap.size w3 w' → (convert 25 9 (.slice A1 px.length c1)).run Try.prog w' = .ok (.string (strOfNums px)) w' from fun w' h => Kd.C_string Try.underlying25 Try.underlying5 Try.underlying9 (Kd.C_below HC1.out h))
        have HC3z := Lib.hid (show ∀ w', Below w3.heap.size w3 w' → (convert 25 9 (.slice A3 px.length c3)).run Try.prog w' = .ok (.string (strOfNums px)) w' from fun w' h => Kd.C_string Try.underlying25 Try.underlying5 Try.underlying9 (Kd.C_below HC3.out h))
        have HC7z := Lib.hid (show ∀ w', Below w7.heap.size w7 w' → (convert 25 9 (.slice A7 (fo.getD []).length c7)).run Try.prog w' = .ok (.string (strOfNums (fo.getD []))) w' from fun w' h => Kd.C_string Try.underlying25 Try.underlying5 Try.underlying9 (Kd.C_below HC7.out h))
        have HC9z := Lib.hid (show ∀ w', Below w8.heap.size w8 w' → (convert 25 9 (.slice A9 (fo.getD []).length c9)).run Try.prog w' = .ok (.string (strOfNums (fo.getD []))) w' from fun w' h => Kd.C_string Try.underlying25 Try.underlying5 Try.underlying9 (Kd.C_below HC9.out h))
        have HW8 := Lib.hid (HBr.out.trans ((stay1 (stay1 HB6.out HB7.out) HB8.out).mono HBr.out.size))
        have HB68 := Lib.hid (stay1 (stay1 HB6.out HB7.out) HB8.out)
        have HB78 := Lib.hid (stay1 HB7.out HB8.out)
        generalize fo.getD [] = fd at *
        have HWw := Lib.hid (stay1 HW7.out HB8.out)
        clear HBr HB6 HB7 HB2 HB3 HWr HW6 HW7 HC1 HC3 HC7 HC9 HC8 HO4 HO4' HW5 HO5 HD HD2 HF2
        go_wp2_with (first
          | (go_at_call 35; refine (alive01 _).mono ?_; rintro e w10 ⟨rfl, hb10⟩; (have HB10 := Lib.hid hb10); (have q1 := HC1z.out _ (HW8.out.trans (hb10.mono HW8.out.size))); (have q3 := HC3z.out _ (HW8.out.trans (hb10.mono HW8.out.size))); clear hb10)
          | (go_at_call 57; refine (as_any fl A5 c5 _ (Kd.C_below (Kd.C_below HC5.out HB68.out) HB10.out) HFL.out).mono ?_; rintro e w11 ⟨A11, c11, rfl, hC11, hb11⟩; (have HB11 := Lib.hid (stay1 HB10.out hb11)); (have HC11 := Lib.hid hC11); (have HC6' := Lib.hid (Kd.C_below (Kd.C_below HC6.out HB78.out) HB11.out)); clear hC11 hb11 q1 q3)
          | (go_at_call 56; refine (same_refl fl A11 A6 c11 c6 _ HC11.out HC6'.out).mono ?_; rintro e w12 ⟨rfl, hb12⟩; (have HB12 := Lib.hid (stay1 HB11.out hb12)); (have q7 := HC7z.out _ (HB8.out.trans (HB12.out.mono HB8.out.size))); (have q9 := HC9z.out _ HB12.out); clear hb12))
        go_ret
        exact ⟨rfl, stay1 HWw.out HB12.out⟩
end Go.Proofs.Ytigbmbmngkmdlaa.V
