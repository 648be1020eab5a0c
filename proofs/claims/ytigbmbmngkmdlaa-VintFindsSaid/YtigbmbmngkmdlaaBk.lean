/-
  vint: the law VintBack, walked.
-/
import Derived.Test.YtigbmbmngkmdlaaPf
import Derived.Test.YtigbmbmngkmdlaaFb
import Derived.Test.YtigbmbmngkmdlaaFa
import Derived.Test.YtigbmbmngkmdlaaVl
namespace Go.Proofs.Ytigbmbmngkmdlaa.V
open Go.RowKit Go.Proofs.Ytigbmbmngkmdlaa.L Go.Proofs.YtigbmbmngkmdlaaW.PrintWords

/-- the numbers that have bytes -/
def goods (l : List Int) : List Int := l.filter (fun v => decide (v < 4611686018427387904))
theorem goods_fine {l : List Int} (h : ∀ v ∈ l, 0 ≤ v) : fineN (goods l) := fun v hv => by
  simp only [goods, List.mem_filter, decide_eq_true_eq] at hv
  exact ⟨h v hv.1, hv.2⟩
theorem goods_le (l : List Int) : (goods l).length ≤ l.length := List.length_filter_le _ _
theorem goods_yes {v : Int} {l : List Int} (h : v < 4611686018427387904) : goods (v :: l) = v :: goods l := by simp [goods, h]
theorem goods_no {v : Int} {l : List Int} (h : ¬ v < 4611686018427387904) : goods (v :: l) = goods l := by simp [goods, h]
theorem cat_app (a b : List Int) : cat (a ++ b) = cat a ++ cat b := by simp [cat]
theorem cat_one (v : Int) : cat [v] = putL v := by simp [cat]
theorem cat_len : ∀ (l : List Int), (cat l).length ≤ 8 * l.length
  | [] => by simp [cat]
  | v :: l => by
    have := cat_len l
    have h8 := putL_len v
    show (putL v ++ cat l).length ≤ _
    simp only [List.length_append, List.length_cons]
    omega
theorem cat_ok {l : List Int} (h : fineN l) : okB (cat l) := fun x hx => by
  simp only [cat, List.mem_flatMap] at hx
  obtain ⟨v, hv, hx⟩ := hx
  exact putL_ok (h v hv).1 x hx

/-- what stands when the numbers are through: the rest is walked alone -/
def backPost (w : World) (e : Ending) (w' : World) : Prop := e = .returned (.bool true) ∧ Below w.heap.size w w'

set_option maxHeartbeats 6400000 in
set_option maxRecDepth 100000 in
theorem vback_walk (l : List Int) (A : Option Addr) (c : Nat) (f : List Fld) (Af : Option Addr) (cf : Nat) (b : List Int) (Ab : Option Addr) (cb : Nat) (w : World)
    (hC : (Kd.int .u64).C w A l.length l) (h0 : ∀ v ∈ l, 0 ≤ v) (hF : kF.C w Af f.length f) (hs : f.length * 32 ≤ 140737488351232) (hB : (Kd.int .u8).C w Ab b.length b) (hcb : b.length ≤ cb) (hb : okB b) (hokf : okF2 f) :
    Calls Try.prog 13 #[.slice A l.length c, .slice Af f.length cf, .slice Ab b.length cb] w fun e w' => e = .returned (.bool true) ∧ Below w.heap.size w w' := by
  have hG := great_any f Af cf w hF
  have early : greatL f.length f 0 = true ∨ (greatL f.length f 0 = false ∧ (100 : Int) < (l.length : Int)) ∨ (greatL f.length f 0 = false ∧ ¬ (100 : Int) < (l.length : Int) ∧ (3000 : Int) < (b.length : Int)) ∨ (greatL f.length f 0 = false ∧ ¬ (100 : Int) < (l.length : Int) ∧ ¬ (3000 : Int) < (b.length : Int)) := by
    cases greatL f.length f 0 <;> simp <;> omega
  rcases early with hg | ⟨hg, h1⟩ | ⟨hg, h1, h2⟩ | ⟨hg, h1, h2⟩
  case inr.inr.inr =>
    rw [hg] at hG
    have hgs := great_spec hg (Int.le_refl 0)
    have HG := Lib.hid hG
    have t1 : decide ((100 : Int) < (l.length : Int)) = false := by simpa using h1
    have t2 : decide ((3000 : Int) < (b.length : Int)) = false := by simpa using h2
    obtain ⟨hmx, ho⟩ := C_open hC
    have HO := Lib.hid ho
    have HF0 := Lib.hid hF
    have HS := Lib.hid hs
    have HBb := Lib.hid hB
    have HK := Lib.hid hcb
    have HOK := Lib.hid hb
    have H0 := Lib.hid h0
    have HGF := Lib.hid (goods_fine h0)
    have HGL := Lib.hid (goods_le l)
    have HLB := Lib.hid (show l.length ≤ 100 ∧ b.length ≤ 3000 by omega)
    obtain ⟨G, hGd⟩ : ∃ G, goods l = G := ⟨_, rfl⟩
    rw [hGd] at HGF HGL
    have HGd := Lib.hid hGd
    clear hG hg hGd h0 hF hs hB hcb hb hC h1 h2 ho hgs
    go_enter Try.func13, Try.ntmps13
    go_wp2_with fail
    refine HG.out.mono ?_
    rintro e w0 ⟨rfl, rfl⟩
    clear HG
    go_wp2_with fail
    go_loopg [7, 9, 10] (l.length + 1) (fun g v7 v9 v10 w' => ∃ (acc : List Int) (m : Nat), v9 = .int .i64 acc.length ∧ v10 = .int .i64 m ∧ Hid (m ≤ l.length ∧ acc.length ≤ m ∧ l.length < g + m ∧ acc ++ goods (l.drop m) = G) ∧ Hid ((Kd.int .u8).R 5 w' w.heap.size (fun _ => True) v7 (cat acc)) ∧ Hid (Below w.heap.size w w'))
    case atStart => exact ⟨[], 0, rfl, rfl, Lib.hid ⟨by omega, by simp, by omega, HGd.out⟩, Lib.hid (Kd.R_nil _ _ _ _ _), Lib.hid (Below.refl _ _)⟩
    case round =>
      obtain ⟨acc, m, rfl, rfl, HN, HO1, HB1⟩ := hrel
      cases gk with
      | zero => have := HN.out; omega
      | succ g =>
        obtain ⟨h1, h2, h3, h4⟩ := HN.out
        clear HN
        by_cases hlt : m < l.length
        · rw [drop_cons_getD l 0 m hlt] at h4
          have hv0 : 0 ≤ l.getD m 0 := H0.out _ (by rw [List.getD_eq_getElem?_getD, List.getElem?_eq_getElem hlt]; exact List.getElem_mem hlt)
          rcases HO.out with e | ⟨bk, off, rfl, _, hcells⟩
          · subst e; simp at hlt
          have k0 := pw_cell_below HB1.out (hcells m hlt)
          generalize l.getD m 0 = v at h4 hv0 k0
          have H2 := Lib.hid h2
          have hp := fun w => put_any v w hv0
          have h8 := Lib.hid (cat_len acc)
          have hl8 := Lib.hid (putL_len v)
          clear HO hcells hv0
          by_cases hv : v < 4611686018427387904
          · rw [goods_yes hv] at h4
            have H4 := Lib.hid h4
            rw [show putE v = 0 from if_pos hv] at hp
            have HP := Lib.hid hp
            clear hp h4 hv
            go_wp2_with (first
              | (go_at_call 36; refine (HP.out _).mono ?_; rintro e w1 ⟨v1, rfl, ho1, hb1⟩; obtain ⟨A1, c1, rfl, _, hC1⟩ := Kd.R_reads ho1; (have HB2 := Lib.hid (stay1 HB1.out hb1)); (have HO2 := Lib.hid (Kd.R_below HO1.out hb1)); (have HC1 := Lib.hid hC1); clear ho1 hb1 hC1)
              | (at_builtin; refine appn (w0 := w) .u8 w.heap.size (.tmp 55) (.tmp 56) 25 5 1 rfl rfl Try.underlying25 info_u8 (by decide) u7 (cat acc) _ _ _ _ rfl rfl HO2.out HC1.out HB2.out HB2.out.size (by have := h8.out; have := hl8.out; have := H2.out; have := HLB.out; omega) ?_; intro v3 w3 ho3 hb3 _; (have HB3 := Lib.hid hb3); (have HO3 := Lib.hid ho3); clear ho3 hb3))
            go_roundg g
            case measure => omega
            case rel => exact ⟨acc ++ [v], m + 1, by simp, by go_num, Lib.hid ⟨by omega, by have := H2.out; simp; omega, by omega, by simpa using H4.out⟩, Lib.hid (by rw [cat_app, cat_one]; exact HO3.out), HB3⟩
          · rw [goods_no hv] at h4
            have H4 := Lib.hid h4
            rw [show putE v = 11 from if_neg hv] at hp
            have HP := Lib.hid hp
            clear hp h4 hv
            go_wp2_with (go_at_call 36; refine (HP.out _).mono ?_; rintro e w1 ⟨v1, rfl, ho1, hb1⟩; (have HB2 := Lib.hid (stay1 HB1.out hb1)); (have HO2 := Lib.hid (Kd.R_below HO1.out hb1)); clear ho1 hb1)
            go_roundg g
            case measure => omega
            case rel => exact ⟨acc, m + 1, rfl, by go_num, Lib.hid ⟨by omega, by have := H2.out; omega, by omega, H4.out⟩, HO2, HB2⟩
        · rw [List.drop_eq_nil_of_le (by omega)] at h4
          have h4' : acc = G := by simpa [goods] using h4
          subst h4'
          clear h4 HGd H0 HO h2 h3
          obtain ⟨A7, c7, rfl, hc7, hC7⟩ := Kd.R_reads HO1.out
          have hN := numbers_any (cat acc) A7 c7 wr hC7 hc7 (cat_ok HGF.out) (by have := cat_len acc; have := HGL.out; have := HLB.out; omega)
          rw [numsR_cat HGF.out] at hN
          have HN := Lib.hid hN
          have HC7 := Lib.hid hC7
          clear hN hC7 hc7 HO1
          have hGn : acc.length ≤ 100 := by have := HGL.out; have := HLB.out; omega
          go_wp2_with fail
          refine HN.out.mono ?_
          rintro e w1 ⟨v1, rfl, ho1, hb1⟩
          obtain ⟨A1, c1, rfl, _, hC1⟩ := Kd.R_reads ho1
          have HC1 := Lib.hid hC1
          have HB2 := Lib.hid (stay1 HB1.out hb1)
          have HC7' := Lib.hid (Kd.C_below HC7.out hb1)
          clear ho1 hC1 hb1 HN HC7
          clear HGL HLB
          go_wp2_with fail
          go_loopg [8, 15] (acc.length + 1) (fun g v8 v15 w' => ∃ m : Nat, v15 = .int .i64 m ∧ Hid (m ≤ acc.length ∧ acc.length < g + m) ∧ Hid ((Kd.int .u8).R 5 w' w1.heap.size (fun _ => True) v8 (cat (acc.take m))) ∧ Hid (Below w1.heap.size w1 w'))
          case atStart => exact ⟨0, rfl, Lib.hid ⟨by omega, by omega⟩, Lib.hid (Kd.R_nil _ _ _ _ _), Lib.hid (Below.refl _ _)⟩
          case round =>
            obtain ⟨j, rfl, HJ, HW, HBr⟩ := hrel
            cases gk with
            | zero => have := HJ.out; omega
            | succ g =>
              obtain ⟨hj1, hj2⟩ := HJ.out
              clear HJ
              by_cases hlt : j < acc.length
              · obtain ⟨_, ho1⟩ := C_open HC1.out
                rcases ho1 with e | ⟨bk, off, rfl, _, hcells⟩
                · subst e; simp at hlt
                have k0 := pw_cell_below HBr.out (hcells j hlt)
                have hfv := HGF.out (acc.getD j 0) (by rw [List.getD_eq_getElem?_getD, List.getElem?_eq_getElem hlt]; exact List.getElem_mem hlt)
                have htk : cat (acc.take (j + 1)) = cat (acc.take j) ++ putL (acc.getD j 0) := by
                  rw [List.take_add_one, List.getD_eq_getElem?_getD, List.getElem?_eq_getElem hlt, cat_app]
                  simp [cat]
                have h8 := Lib.hid (show (cat (acc.take j)).length ≤ 800 from by have := cat_len (acc.take j); simp at this; omega)
                generalize acc.getD j 0 = v at htk hfv k0
                have hl8 := Lib.hid (putL_len v)
                have HP := Lib.hid (fun w => put_ok v w hfv.1 hfv.2)
                have HTK := Lib.hid htk
                clear hcells hfv htk
                go_wp2_with (first
                  | (go_at_call 36; refine (HP.out _).mono ?_; rintro e w3 ⟨v3, rfl, ho3, hb3⟩; obtain ⟨A3, c3, rfl, _, hC3⟩ := Kd.R_reads ho3; (have HB3 := Lib.hid (stay1 HBr.out hb3)); (have HO3 := Lib.hid (Kd.R_below HW.out hb3)); (have HC3 := Lib.hid hC3); clear ho3 hb3 hC3)
                  | (at_builtin; refine appn (w0 := w1) .u8 w1.heap.size (.tmp 79) (.tmp 80) 25 5 1 rfl rfl Try.underlying25 info_u8 (by decide) u8 (cat (acc.take j)) _ _ _ _ rfl rfl HO3.out HC3.out HB3.out HB3.out.size (by have := h8.out; have := hl8.out; omega) ?_; intro v4 w4 ho4 hb4 _; (have HB4 := Lib.hid hb4); (have HO4 := Lib.hid ho4); clear ho4 hb4))
                go_roundg g
                case measure => omega
                case rel => exact ⟨j + 1, by go_num, Lib.hid ⟨by omega, by omega⟩, Lib.hid (by rw [HTK.out]; exact HO4.out), HB4⟩
              · obtain ⟨A8, c8, rfl, _, hC8⟩ := Kd.R_reads HW.out
                rw [List.take_of_length_le (by omega)] at hC8
                have hq8 : (convert 25 9 (.slice A8 (cat (acc.take j)).length c8)).run Try.prog wr = .ok (.string (strOfNums (cat acc))) wr := by
                  rw [List.take_of_length_le (by omega)]
                  exact Kd.C_string Try.underlying25 Try.underlying5 Try.underlying9 hC8
                have hq7 : (convert 25 9 (.slice A7 (cat acc).length c7)).run Try.prog wr = .ok (.string (strOfNums (cat acc))) wr := Kd.C_string Try.underlying25 Try.underlying5 Try.underlying9 (Kd.C_below HC7'.out HBr.out)
                have HWr := Lib.hid (stay1 HB2.out HBr.out)
                have hP := putfields_any f Af cf wr (Kd.C_below HF0.out HWr.out)
                have hPF : (pfR f).2 = 0 → fldsR (pfR f).1 = (f, 0) := fldsR_pfR
                have hPG := fun h => pfR_good (l := f) h hokf
                generalize pfR f = PF at hP hPF hPG
                obtain ⟨px, pe⟩ := PF
                have HP := Lib.hid hP
                have HPF := Lib.hid hPF
                have HPG := Lib.hid hPG
                clear hC8 hP hPF hPG HGF HC7' HW HBr HB2 HC1
                go_wp2_with fail
                refine HP.out.mono ?_
                rintro e w2 ⟨v2, rfl, ho2, hb2⟩
                obtain ⟨A2, c2, rfl, hc2, hC2⟩ := Kd.R_reads ho2
                have HC2 := Lib.hid hC2
                have HB2 := Lib.hid (stay1 HWr.out hb2)
                clear hb2 ho2 hC2 HP HWr hq7 hq8
                by_cases hpe : pe = 0
                case' pos =>
                  subst hpe
                  have hFl := fields_any px A2 c2 w2 HC2.out hc2 (HPG.out rfl).1 (Nat.le_trans (HPG.out rfl).2 (by decide))
                  rw [HPF.out rfl] at hFl
                  have HFl := Lib.hid hFl
                  clear hFl HPF HPG HC2 hc2
                  go_wp2_with (first
                    | (go_at_call 55; refine HFl.out.mono ?_; rintro e w3 ⟨v3, rfl, ho3, hb3⟩; obtain ⟨A3, c3, rfl, _, hC3⟩ := Kd.R_reads ho3; (have HC3 := Lib.hid hC3); (have HB3 := Lib.hid (stay1 HB2.out hb3)); clear ho3 hb3 hC3)
                    | (go_at_call 57; refine (as_any f A3 c3 _ HC3.out HS.out).mono ?_; rintro e w4 ⟨A4, c4, rfl, hC4, hb4⟩; (have HC4 := Lib.hid hC4); (have HB4 := Lib.hid (stay1 HB3.out hb4)); clear hb4 hC4 HC3)
                    | (go_at_call 57; refine (as_any f Af cf _ (Kd.C_below HF0.out HB4.out) HS.out).mono ?_; rintro e w5 ⟨A5, c5, rfl, hC5, hb5⟩; (have HC4' := Lib.hid (Kd.C_below HC4.out hb5)); (have HC5 := Lib.hid hC5); (have HB5 := Lib.hid (stay1 HB4.out hb5)); clear hb5 hC5 HC4)
                    | (go_at_call 56; refine (same_refl f A4 A5 c4 c5 _ HC4'.out HC5.out).mono ?_; rintro e wz ⟨rfl, hbz⟩; (have HBz := Lib.hid (stay1 HB5.out hbz)); clear hbz HC5 HC4' HB5 HB4 HB3 HB2 HFl))
                case' neg =>
                  have tpe : (pe == 0) = false := by simpa using hpe
                  obtain ⟨wz, hwz⟩ : ∃ x, x = w2 := ⟨_, rfl⟩
                  subst hwz
                  have HBz := HB2
                  clear HPF HPG HC2 hc2 HB2
                  go_wp2_with fail
                all_goals
                  have hFB := fields_any b Ab cb wz (Kd.C_below HBb.out HBz.out) HK.out HOK.out (by have := t2; simp at this; omega)
                  have hPB : (fldsR b).2 = 0 → pfR (fldsR b).1 = (b, 0) := pfR_fldsR HOK.out
                  generalize fldsR b = FB at hFB hPB
                  obtain ⟨fl, fe⟩ := FB
                  have HFB := Lib.hid hFB
                  clear hFB
                  by_cases hfe : fe = 0
                  · subst hfe
                    have HPB := Lib.hid (hPB rfl)
                    clear hPB
                    go_wp2_with fail
                    refine HFB.out.mono ?_
                    rintro e w6 ⟨v6, rfl, ho6, hb6⟩
                    obtain ⟨A6, c6, rfl, _, hC6⟩ := Kd.R_reads ho6
                    have hP := putfields_any fl A6 c6 w6 hC6
                    rw [HPB.out] at hP
                    have HP := Lib.hid hP
                    have HB6 := Lib.hid (stay1 HBz.out hb6)
                    clear hP hC6 hb6 ho6 HFB
                    go_wp2_with fail
                    refine HP.out.mono ?_
                    rintro e w7 ⟨v7, rfl, ho7, hb7⟩
                    obtain ⟨A7', c7', rfl, _, hC7⟩ := Kd.R_reads ho7
                    have HC7 := Lib.hid hC7
                    have HB7 := Lib.hid (stay1 HB6.out hb7)
                    clear hC7 ho7 hb7 HP
                    go_wp2_with fail
                    refine (alive01 _).mono ?_
                    rintro e w8 ⟨rfl, hb8⟩
                    have HB8 := Lib.hid (stay1 HB7.out hb8)
                    have q1 : (convert 25 9 (.slice A7' b.length c7')).run Try.prog w8 = .ok (.string (strOfNums b)) w8 := Kd.C_string Try.underlying25 Try.underlying5 Try.underlying9 (Kd.C_below HC7.out hb8)
                    have q2 : (convert 25 9 (.slice Ab b.length cb)).run Try.prog w8 = .ok (.string (strOfNums b)) w8 := Kd.C_string Try.underlying25 Try.underlying5 Try.underlying9 (Kd.C_below HBb.out HB8.out)
                    clear hb8
                    go_wp2
                    go_ret
                    exact ⟨rfl, HB8.out⟩
                  · have tfe : (fe != 0) = true := by simpa using hfe
                    clear hPB
                    go_wp2_with fail
                    refine HFB.out.mono ?_
                    rintro e w6 ⟨v6, rfl, ho6, hb6⟩
                    obtain ⟨A6, c6, rfl, _, hC6⟩ := Kd.R_reads ho6
                    have HP := Lib.hid (putfields_any fl A6 c6 w6 hC6)
                    have HB6 := Lib.hid (stay1 HBz.out hb6)
                    clear hC6 hb6 ho6 HFB
                    go_wp2_with fail
                    refine HP.out.mono ?_
                    rintro e w7 ⟨v7, rfl, _, hb7⟩
                    have HB7 := Lib.hid (stay1 HB6.out hb7)
                    clear hb7 HP
                    go_wp2_with fail
                    refine (alive01 _).mono ?_
                    rintro e w8 ⟨rfl, hb8⟩
                    have HB8 := Lib.hid (stay1 HB7.out hb8)
                    clear hb8
                    go_wp2
                    go_ret
                    exact ⟨rfl, HB8.out⟩
  all_goals
    rw [hg] at hG
    have HG := Lib.hid hG
    clear hG hg h0 hF hs hB hcb hb hC
    go_enter Try.func13, Try.ntmps13
    go_wp2_with fail
    refine HG.out.mono ?_
    rintro e w0 ⟨rfl, rfl⟩
    go_wp2_with fail
    refine (alive01 _).mono ?_
    rintro e w3 ⟨rfl, hb3⟩
    go_wp2
    go_ret
    exact ⟨rfl, hb3⟩
end Go.Proofs.Ytigbmbmngkmdlaa.V
