/-
  vint: the law VintFinds, walked.
-/
import Derived.Test.YtigbmbmngkmdlaaFk
import Derived.Deep.DeepCutAuto
import Derived.Deep.CutRange
namespace Go.Proofs.Ytigbmbmngkmdlaa.V
open Go.RowKit Go.Proofs.Ytigbmbmngkmdlaa.L Go.Proofs.YtigbmbmngkmdlaaW.PrintWords

set_option maxHeartbeats 12800000 in
set_option maxRecDepth 100000 in
theorem finds_walk (l : List Fld) (A : Option Addr) (c : Nat) (t : Int) (d : List Int) (Ad : Option Addr) (cd : Nat) (a : List Int) (Aa : Option Addr) (ca : Nat) (b : List Int) (Ab : Option Addr) (cb : Nat) (w : World)
    (hC : kF.C w A l.length l) (ht : 0 ≤ t ∧ t < 256) (hD : (Kd.int .u8).C w Ad d.length d) (hcd : d.length ≤ cd) (ha : (Kd.int .u8).C w Aa a.length a) (hca : a.length ≤ ca) (hoa : okB a) (hb : (Kd.int .u8).C w Ab b.length b) (hcb : b.length ≤ cb) (hob : okB b) :
    Calls Try.prog 12 #[.slice A l.length c, .agg #[.int .u8 t, .slice Ad d.length cd], .slice Aa a.length ca, .slice Ab b.length cb] w fun e w' => e = .returned (.bool true) ∧ Below w.heap.size w w' := by
  obtain ⟨w1, hw1⟩ : ∃ w1, w1 = w.alloc (.cells #[.int .u8 t, .slice Ad d.length cd] 90) := ⟨_, rfl⟩
  have hb1 : Below w.heap.size w w1 := by rw [hw1]; exact (Below.refl _ _).alloc (Nat.le_refl _) _
  have hbx : w1.heap[w.heap.size]? = some (.cells #[.int .u8 t, .slice Ad d.length cd] 90 (0, 0)) := by rw [hw1]; exact heap_alloc_new w _
  have k0 : w1.cell? ⟨w.heap.size, 0, none⟩ = some (.int .u8 t) := by simp [World.cell?, hbx]
  have k1 : w1.cell? ⟨w.heap.size, 1, none⟩ = some (.slice Ad d.length cd) := by simp [World.cell?, hbx]
  have hG := great_any l A c w1 (Kd.C_below hC hb1)
  have HC := Lib.hid (Kd.C_below hC hb1)
  have HD := Lib.hid (Kd.C_below hD hb1)
  have HA := Lib.hid (Kd.C_below ha hb1)
  have HBb := Lib.hid (Kd.C_below hb hb1)
  have HKD := Lib.hid hcd
  have HKA := Lib.hid hca
  have HKB := Lib.hid hcb
  have HOA := Lib.hid hoa
  have HOB := Lib.hid hob
  have HTT := Lib.hid ht
  have HB1 := Lib.hid hb1
  have hlmax := (F_open hC).1
  clear hC hD ha hb hcd hca hcb hoa hob ht hb1 hbx
  have early : greatL l.length l 0 = true ∨ (greatL l.length l 0 = false ∧ (17000 : Int) < (d.length : Int)) ∨ (greatL l.length l 0 = false ∧ ¬ (17000 : Int) < (d.length : Int) ∧ (2000 : Int) < (a.length : Int)) ∨ (greatL l.length l 0 = false ∧ ¬ (17000 : Int) < (d.length : Int) ∧ ¬ (2000 : Int) < (a.length : Int) ∧ (2000 : Int) < (b.length : Int)) ∨ (greatL l.length l 0 = false ∧ ¬ (17000 : Int) < (d.length : Int) ∧ ¬ (2000 : Int) < (a.length : Int) ∧ ¬ (2000 : Int) < (b.length : Int)) := by
    cases greatL l.length l 0 <;> simp <;> omega
  rcases early with hg | ⟨hg, h1⟩ | ⟨hg, h1, h2⟩ | ⟨hg, h1, h2, h3⟩ | ⟨hg, h1, h2, h3⟩
  case inr.inr.inr.inr =>
    rw [hg] at hG
    have hgs := great_spec hg (Int.le_refl 0)
    have HG := Lib.hid hG
    have HGS := Lib.hid hgs
    have t1 : decide ((17000 : Int) < (d.length : Int)) = false := by simpa using h1
    have t2 : decide ((2000 : Int) < (a.length : Int)) = false := by simpa using h2
    have t3 : decide ((2000 : Int) < (b.length : Int)) = false := by simpa using h3
    have HLL := Lib.hid (show d.length ≤ 17000 ∧ a.length ≤ 2000 ∧ b.length ≤ 2000 from by omega)
    have HK0 := Lib.hid k0
    have HK1 := Lib.hid k1
    rw [hw1] at k1
    clear hG hgs h1 h2 h3 k0 hg
    go_enter Try.func12, Try.ntmps12
    go_wp2_with fail
    rw [← hw1]
    rw [← hw1] at k1
    clear hw1
    refine HG.out.mono ?_
    rintro e wx ⟨rfl, rfl⟩
    go_wp2_with fail
    go_loopg [9, 10] (l.length + 1) (fun g v9 v10 w' => ∃ (m : Nat) (fv : Int), v9 = .int .i64 fv ∧ v10 = .int .i64 m ∧ Hid (m ≤ l.length ∧ l.length < g + m) ∧ Hid ((fv = -1 ∧ idxL t l 0 = idxL t (l.drop m) m) ∨ (0 ≤ fv ∧ fv = idxL t l 0)) ∧ Hid (Below w1.heap.size w1 w'))
    case atStart => exact ⟨0, -1, rfl, rfl, Lib.hid ⟨by omega, by omega⟩, Lib.hid (.inl ⟨rfl, by simp⟩), Lib.hid (Below.refl _ _)⟩
    case round =>
      obtain ⟨m, fv, rfl, rfl, HJ, HF, HB⟩ := hrel
      cases gk with
      | zero => have := HJ.out; omega
      | succ g =>
        obtain ⟨hj1, hj2⟩ := HJ.out
        clear HJ
        by_cases hlt : m < l.length
        · go_wp2_with fail
          rcases HF.out with ⟨rfl, hi⟩ | ⟨hf0, hf1⟩
          · rw [idx_step hlt] at hi
            rcases (F_open HC.out).2 with e | ⟨bo, off, rfl, _, hcells⟩
            · subst e; simp at hlt
            obtain ⟨c0, _⟩ := hcells m hlt
            clear hcells
            generalize (l.getD m zF).1 = tm at c0 hi
            by_cases he : tm = t
            · subst he
              rw [if_pos rfl] at hi
              have HI := Lib.hid hi
              have tt : (tm == tm) = true := by simp
              refine Q.wp_region_segs none [([0, 1, 2, 3, 4, 5, 6, 7, 8, 9, 10, 11], none)] (by kernel_rfl) (by kernel_rfl) (by kernel_rfl) (by kernel_rfl) ?_
              dsimp only [Q.wpSegs, Q.picks, Q.pick]
              replace HB := Lib.hid HB.out.drew
              have q0 : ∀ x : Q.GW wr.drew wr.heap.size none, x.w.cell? ⟨bo, off + m * 2, none⟩ = some (.int .u8 tm) := fun x => pw_cell_below (stay1 HB.out x.below) c0
              have q1 : ∀ x : Q.GW wr.drew wr.heap.size none, x.w.cell? ⟨w.heap.size, 0, none⟩ = some (.int .u8 tm) := fun x => pw_cell_below (stay1 HB.out x.below) HK0.out
              clear hi k1
              repeat (go_big_quiet_step (fail))
              refine wpQuiet_nil ?_
              refine NoPanic.normal ?_
              clear q0 q1 c0 tt HF
              go_wp2
              go_roundg g
              case measure => omega
              case rel => exact ⟨m + 1, m, by go_num, by go_num, Lib.hid (by omega), Lib.hid (.inr ⟨by omega, HI.out.symm⟩), HB⟩
            · rw [if_neg he] at hi
              have HI := Lib.hid hi
              have tt : (tm == t) = false := by simpa using he
              have tt2 : decide (tm = t) = false := by simpa using he
              refine Q.wp_region_segs none [([0, 1, 2, 3, 4, 5, 6, 7, 8, 9, 10, 11], none)] (by kernel_rfl) (by kernel_rfl) (by kernel_rfl) (by kernel_rfl) ?_
              dsimp only [Q.wpSegs, Q.picks, Q.pick]
              replace HB := Lib.hid HB.out.drew
              have q0 : ∀ x : Q.GW wr.drew wr.heap.size none, x.w.cell? ⟨bo, off + m * 2, none⟩ = some (.int .u8 tm) := fun x => pw_cell_below (stay1 HB.out x.below) c0
              have q1 : ∀ x : Q.GW wr.drew wr.heap.size none, x.w.cell? ⟨w.heap.size, 0, none⟩ = some (.int .u8 t) := fun x => pw_cell_below (stay1 HB.out x.below) HK0.out
              clear hi k1
              repeat (go_big_quiet_step (fail))
              refine wpQuiet_nil ?_
              refine NoPanic.normal ?_
              clear q0 q1 c0 tt tt2 he HF
              go_wp2
              go_roundg g
              case measure => omega
              case rel => exact ⟨m + 1, -1, by go_num, by go_num, Lib.hid (by omega), Lib.hid (.inl ⟨rfl, HI.out⟩), HB⟩
          · have tf : decide (fv < 0) = false := decide_eq_false (by omega)
            have HI := Lib.hid (show 0 ≤ fv ∧ fv = idxL t l 0 from ⟨hf0, hf1⟩)
            refine Q.wp_region_segs none [([0, 1, 2, 3, 4, 5, 6, 7, 8, 9, 10, 11], none)] (by kernel_rfl) (by kernel_rfl) (by kernel_rfl) (by kernel_rfl) ?_
            dsimp only [Q.wpSegs, Q.picks, Q.pick]
            replace HB := Lib.hid HB.out.drew
            clear k1 hf0 hf1
            repeat (go_big_quiet_step (fail))
            refine wpQuiet_nil ?_
            refine NoPanic.normal ?_
            clear tf HF
            go_wp2
            go_roundg g
            case measure => omega
            case rel => exact ⟨m + 1, fv, by go_num, by go_num, Lib.hid (by omega), Lib.hid (.inr HI.out), HB⟩
        · have HFI := Lib.hid (show fv = idxL t l 0 from by
            rcases HF.out with ⟨h, hi⟩ | ⟨_, h⟩
            · rw [List.drop_of_length_le (by omega)] at hi
              rw [hi, h]
              rfl
            · exact h)
          clear HF k1
          -- THE REST
          have HW := Lib.hid HB.out.size
          go_wp2_with fail
          clear hlt
          refine Q.wp_region_tr none (.two [1, 3, 6, 7] 0 (.two [] 2 (.ev [] 4 (.ev [] 5 (.ev [] 8 (.done [9, 10, 11, 12, 13])))) 4 (.ev [] 2 (.ev [] 5 (.ev [] 8 (.done [9, 10, 11, 12, 13]))))) 4 (.ev [] 0 (.ev [] 2 (.ev [] 5 (.ev [] 8 (.done [9, 10, 11, 12, 13])))))) (by kernel_rfl) (by kernel_rfl) (by kernel_rfl) (by kernel_rfl) ?_
          refine Q.two_pre ?_
          dsimp only [Q.picks, Q.pick]
          have q0 : ∀ x : Q.GW wr.drew wr.heap.size none, x.w.cell? ⟨w.heap.size, 0, none⟩ = some (.int .u8 t) := fun x => pw_cell_below (stay1 HB.out.drew x.below) HK0.out
          have q1 : ∀ x : Q.GW wr.drew wr.heap.size none, x.w.cell? ⟨w.heap.size, 1, none⟩ = some (.slice Ad d.length cd) := fun x => pw_cell_below (stay1 HB.out.drew x.below) HK1.out
          repeat (go_big_quiet_step (fail))
          refine wpQuiet_nil ?_
          clear q0 q1
          refine finds_tr w1 61 63 65 66 (.tmp 64) (.tmp 62) l t d Ad cd A c ⟨rfl, rfl, rfl⟩ ⟨rfl, rfl, rfl⟩ ⟨rfl, rfl, rfl⟩ ⟨rfl, rfl, rfl⟩ (by rfl) ⟨Nat.le_of_ble_eq_true rfl, Nat.le_of_ble_eq_true rfl, Nat.le_of_ble_eq_true rfl⟩ (by rfl) rfl rfl (Kd.C_below (kX_of HC.out) HB.out.drew) (fun h0 ad ha => by
            rcases (F_open HC.out).2 with e | ⟨bo, off, e, hbo, _⟩
            · subst e; simp at h0
            · rw [e] at ha
              injection ha with ha
              rw [← ha]
              have := HB.out.size
              show bo < _
              omega) HD.out HKD.out (Nat.le_refl _) (by have := HGS.out.1; rcases this with h | h; subst h; simp; omega) ?_
          intro u0 u2 u4 v5 w5 hr5 hb5
          have HB5 := Lib.hid (HB.out.drew.trans (hb5.mono HB.out.size))
          obtain ⟨A6, c6, e6, _, hC6⟩ := Kd.R_reads hr5
          rw [show (l ++ [(t, d)]).length = l.length + 1 from by simp] at e6 hC6
          subst e6
          have HC6 := Lib.hid (show kF.C w5 A6 (l.length + 1) (l ++ [(t, d)]) from kX_read HB5.out hC6)
          have HZ5 := Lib.hid hb5.size
          clear hC6 hr5 hb5
          dsimp only [Q.wpTr, Q.picks, Q.pick]
          go_simp
          refine wpQuiet_nil ?_
          go_wp2_with (go_at_call 53; refine (find_app l t d A6 c6 _ HC6.out HGS.out.2 HLL.out.1).mono ?_; rintro e w9 ⟨v0, rfl, hr9, hb9⟩; obtain ⟨A9, c9, rfl, _, hC9⟩ := Kd.R_reads hr9; (have HC9 := Lib.hid hC9); (have HG9 := Lib.hid hb9); clear hr9 hb9 hC9)
          refine Q.ev_keep HG9.out HZ5.out ?_
          have HB9 := Lib.hid (stay1 HB5.out HG9.out)
          repeat (go_big_quiet_step (fail))
          refine wpQuiet_nil ?_
          refine NoPanic.normal ?_
          clear HC6 HZ5 HB5 HG9 HB
          have k0 := pw_cell_below HB9.out HK0.out
          have HFi := Lib.hid (find_any l A c t w9 (Kd.C_below HC.out HB9.out) (fun f hf => by have := HGS.out.2 f hf; omega))
          go_wp2_with fail
          refine HFi.out.mono ?_
          rintro e w10 ⟨v13, rfl, hr10, hb10⟩
          obtain ⟨A10, c10, rfl, _, hC10⟩ := Kd.R_reads hr10
          have HB10 := Lib.hid (stay1 HB9.out hb10)
          have HX := Lib.hid (Kd.C_below HC9.out hb10)
          have HY := Lib.hid hC10
          clear hr10 hb10 hC10 k0 HFi HC9 HB9
          have HFI2 := HFI.out
          rcases idx_find t l 0 with ⟨hi1, hi2⟩ | ⟨j, hj, hi1, hi2⟩
          · -- none
            rw [hi1] at HFI2
            subst HFI2
            rw [hi2] at HX HY ⊢
            have HI1 := HFI
            clear HFI
            dsimp only [Option.getD, Option.isSome] at HX HY ⊢
            have q0 : ∀ x : Q.GW w10.drew w10.heap.size none, x.w.cell? ⟨w.heap.size, 1, none⟩ = some (.slice Ad d.length cd) := fun x => pw_cell_below (stay1 HB10.out.drew x.below) HK1.out
            have q1 : ∀ x : Q.GW w10.drew w10.heap.size none, (convert 25 9 (.slice A9 d.length c9)).run Try.prog x.w = .ok (.string (strOfNums d)) x.w := fun x => Kd.C_string Try.underlying25 Try.underlying5 Try.underlying9 (Kd.C_below HX.out (stay1 (stay0 w10) x.below))
            have q2 : ∀ x : Q.GW w10.drew w10.heap.size none, (convert 25 9 (.slice Ad d.length cd)).run Try.prog x.w = .ok (.string (strOfNums d)) x.w := fun x => Kd.C_string Try.underlying25 Try.underlying5 Try.underlying9 (Kd.C_below HD.out (stay1 HB10.out.drew x.below))
            go_wp2_with fail
            refine Q.wp_region_segs none [([0, 1, 2, 3, 4, 5, 6, 7, 8, 9, 10, 11, 12, 13, 14, 15, 16, 17, 18, 19, 20, 21, 22, 23, 24, 25, 26, 27, 28, 29, 30, 31, 32, 33, 34, 35, 36, 37, 38, 39, 40, 41, 42, 43, 44, 45, 46], none)] (by kernel_rfl) (by kernel_rfl) (by kernel_rfl) (by kernel_rfl) ?_
            dsimp only [Q.wpSegs, Q.picks, Q.pick]
            repeat (go_big_quiet_step (fail))
            refine wpQuiet_nil ?_
            refine NoPanic.normal ?_
            clear q0 q1 q2
            obtain ⟨wA, hwA⟩ : ∃ wA, wA = w10.drew := ⟨_, rfl⟩
            have HBA := Lib.hid (show Below w1.heap.size w1 wA from hwA ▸ HB10.out.drew)
            rw [← hwA]
            clear hwA HX HY HB10 HI1
            have HN1 := Lib.hid (numbers_any a Aa ca wA (Kd.C_below HA.out HBA.out) HKA.out HOA.out (by have := HLL.out; omega))
            go_wp2_with fail
            refine HN1.out.mono ?_
            rintro e w11 ⟨v15, rfl, hr11, hb11⟩
            obtain ⟨A15, c15, rfl, _, hC15⟩ := Kd.R_reads hr11
            have HB11 := Lib.hid (stay1 HBA.out hb11)
            have HP := Lib.hid hC15
            clear hr11 hb11 hC15 HN1 HBA
            have HN2 := Lib.hid (numbers_any b Ab cb w11 (Kd.C_below HBb.out HB11.out) HKB.out HOB.out (by have := HLL.out; omega))
            go_wp2_with fail
            refine HN2.out.mono ?_
            rintro e w12 ⟨v17, rfl, hr12, hb12⟩
            obtain ⟨A17, c17, rfl, _, hC17⟩ := Kd.R_reads hr12
            have HB12 := Lib.hid (stay1 HB11.out hb12)
            replace HP := Lib.hid (Kd.C_below HP.out hb12)
            have HQ := Lib.hid hC17
            clear hr12 hb12 hC17 HN2 HB11
            go_wp2_with (first
              | (at_builtin; refine appn (w0 := w12) .u8 w12.heap.size (.tmp 137) (.tmp 138) 25 5 1 rfl rfl Try.underlying25 info_u8 (by decide) (.slice (some ⟨w12.heap.size, 0, none⟩) 0 0) [] a Aa a.length ca rfl rfl (R_empty (W := w12) (Nat.le_refl _) 5 rfl) (Kd.C_below HA.out (stay1 HB12.out ((Below.refl _ _).alloc (Nat.le_refl _) _))) ((Below.refl _ _).alloc (Nat.le_refl _) _) (by simp) (by have := HLL.out; simp; omega) ?_; intro v3 w3 hr3 hb3 hg3; (have HE3 := Lib.hid hr3); (have HB3 := Lib.hid hb3); clear hr3 hb3 hg3; obtain ⟨A6, c6, e6, _, hC6⟩ := Kd.R_reads HE3.out; (rw [show (([] : List Int) ++ a).length = a.length from rfl] at e6); subst e6; clear hC6)
              | (at_builtin; refine appn (w0 := w3) .u8 w12.heap.size (.tmp 139) (.tmp 140) 25 5 1 rfl rfl Try.underlying25 info_u8 (by decide) (.slice A6 a.length c6) ([] ++ a) b Ab b.length cb rfl rfl HE3.out (Kd.C_below HBb.out (stay1 HB12.out HB3.out)) (Below.refl _ _) HB3.out.size (by have := HLL.out; simp; omega) ?_; intro v4 w4 hr4 hb4 hg4; (have HE4 := Lib.hid hr4); (have HB4 := Lib.hid hb4); clear hr4 hb4 hg4))
            obtain ⟨A7, c7, e7, hc7, hC7⟩ := Kd.R_reads HE4.out
            rw [show (([] : List Int) ++ a ++ b) = a ++ b from rfl] at e7 hc7 hC7
            subst e7
            have HB24 := Lib.hid (HB3.out.trans HB4.out)
            have HN3 := Lib.hid (numbers_any (a ++ b) A7 c7 w4 hC7 hc7 (fun x hx => (List.mem_append.1 hx).elim (HOA.out x) (HOB.out x)) (by have := HLL.out; simp; omega))
            obtain ⟨nab, hnab⟩ : ∃ nab, (a ++ b).length = nab := ⟨_, rfl⟩
            rw [hnab] at HN3 ⊢
            clear hC7 hc7 hnab HE3 HE4 HB3 HB4
            refine HN3.out.mono ?_
            rintro e w13 ⟨v19, rfl, hr13, hb13⟩
            obtain ⟨A19, c19, rfl, _, hC19⟩ := Kd.R_reads hr13
            have HAL := Lib.hid hC19
            have HBW := Lib.hid (HB24.out.trans (hb13.mono HB24.out.size))
            replace HP := Lib.hid (Kd.C_below HP.out HBW.out)
            replace HQ := Lib.hid (Kd.C_below HQ.out HBW.out)
            have HBZ := Lib.hid (stay1 HB12.out HBW.out)
            clear hC19 hr13 hb13
            clear HB24 HBW HB12 HN3 HA HBb HKA HKB
            obtain ⟨E1, hE1⟩ : ∃ E, (numsR a).2 = E := ⟨_, rfl⟩
            obtain ⟨E2, hE2⟩ : ∃ E, (numsR b).2 = E := ⟨_, rfl⟩
            obtain ⟨E3, hE3⟩ : ∃ E, (numsR (a ++ b)).2 = E := ⟨_, rfl⟩
            rw [hE1, hE2, hE3]
            by_cases h12 : E1 = 0 ∧ E2 = 0
            rotate_left
            · have h12' : E1 ≠ 0 ∨ (E1 = 0 ∧ E2 ≠ 0) := by omega
              clear hE1 hE2 hE3 h12
              rcases h12' with h1 | ⟨h1, h2⟩
              · have t1 : (E1 == 0) = false := beq_eq_false_iff_ne.2 h1
                have t1' : (E1 != 0) = true := by simpa using h1
                clear h1
                go_wp2_with (go_at_call 35; refine (alive01 _).mono ?_; rintro e wy ⟨rfl, hb⟩; (have HBy := Lib.hid hb); clear hb)
                go_ret
                exact ⟨rfl, stay1 HB1.out (stay1 HBZ.out HBy.out)⟩
              · have t1 : (E1 == 0) = true := by simpa using h1
                have t1' : (E1 != 0) = false := by simpa using h1
                have t2 : (E2 == 0) = false := beq_eq_false_iff_ne.2 h2
                have t2' : (E2 != 0) = true := by simpa using h2
                clear h1 h2
                go_wp2_with (go_at_call 35; refine (alive01 _).mono ?_; rintro e wy ⟨rfl, hb⟩; (have HBy := Lib.hid hb); clear hb)
                go_ret
                exact ⟨rfl, stay1 HB1.out (stay1 HBZ.out HBy.out)⟩
            obtain ⟨rfl, rfl⟩ := h12
            have happ := nums_app HOA.out HOB.out hE1 hE2
            rw [happ] at HAL ⊢
            rw [happ] at hE3
            obtain rfl : E3 = 0 := hE3.symm
            clear hE1 hE2 hE3 happ
            obtain ⟨P, hP⟩ : ∃ P, (numsR a).1 = P := ⟨_, rfl⟩
            obtain ⟨Q2, hQ2⟩ : ∃ P, (numsR b).1 = P := ⟨_, rfl⟩
            dsimp only at HAL ⊢
            rw [hP] at HP HAL ⊢
            rw [hQ2] at HQ HAL ⊢
            have hPm := (C_open HP.out).1
            have hQm := (C_open HQ.out).1
            have hAm := (C_open HAL.out).1
            obtain ⟨N, hN⟩ : ∃ N, (P ++ Q2).length = N := ⟨_, rfl⟩
            have hNN : N = P.length + Q2.length := by rw [← hN]; simp
            have hNi : (N : Int) = (P.length : Int) + (Q2.length : Int) := by omega
            rw [hN] at hAm ⊢
            have HNN := Lib.hid (show N = P.length + Q2.length from hNN)
            have HNe := Lib.hid hN
            have tN : ((N : Int) == (P.length : Int) + (Q2.length : Int)) = true := by simpa using hNi
            have tN' : ((N : Int) != (P.length : Int) + (Q2.length : Int)) = false := by simpa using hNi
            have hb63 : (P.length : Int) + (Q2.length : Int) ≤ 9223372036854775807 := by omega
            clear hP hQ2 hN hNN hNi
            go_wp2_with fail
            clear tN tN'
            go_loopg [21] (N + 1) (fun g v21 w' => ∃ (m : Nat), v21 = .int .i64 m ∧ Hid (m ≤ N ∧ N < g + m) ∧ Hid (Below w13.heap.size w13 w'))
            case atStart => exact ⟨0, rfl, Lib.hid ⟨by omega, by omega⟩, Lib.hid (Below.refl _ _)⟩
            case round =>
              obtain ⟨m, rfl, HJ, HBr⟩ := hrel
              cases gk with
              | zero => have := HJ.out; omega
              | succ g2 =>
                by_cases hm : m < N
                · have HJ' := Lib.hid (show m < N ∧ N < (g2 + 1) + m from ⟨hm, HJ.out.2⟩)
                  clear HJ
                  rcases (C_open HAL.out).2 with e | ⟨ga, offa, rfl, hga, hca⟩
                  · have := HNe.out; rw [e] at this; simp at this; omega
                  have c3 := pw_cell_below HBr.out (hca m (by rw [HNe.out]; exact hm))
                  clear hca hga
                  have z1 : (0 : Int) ≤ (m : Int) := by omega
                  have z2 : (m : Int) < (N : Int) := by omega
                  by_cases hmp : m < P.length
                  · rcases (C_open HP.out).2 with e | ⟨gp, offp, rfl, hgp, hcp⟩
                    · rw [e] at hmp; simp at hmp
                    have c4 := pw_cell_below HBr.out (hcp m hmp)
                    rw [show (P ++ Q2).getD m 0 = P.getD m 0 from by simp only [List.getD_eq_getElem?_getD]; rw [List.getElem?_append_left hmp]] at c3
                    clear hcp hgp
                    generalize P.getD m 0 = y at c3 c4
                    have z3 : (m : Int) < (P.length : Int) := by omega
                    have t3 : decide ((m : Int) < (P.length : Int)) = true := decide_eq_true z3
                    have t3' : decide (m < P.length) = true := decide_eq_true hmp
                    have t4 : decide ((P.length : Int) ≤ (m : Int)) = false := decide_eq_false (by omega)
                    have t4' : decide (P.length ≤ m) = false := decide_eq_false (by omega)
                    have q1 : ∀ x : Q.GW wr.drew wr.heap.size none, x.w.cell? ⟨ga, offa + m, none⟩ = some (.int .u64 y) := fun x => pw_cell_below (stay1 (stay0 wr) x.below) c3
                    have q2 : ∀ x : Q.GW wr.drew wr.heap.size none, x.w.cell? ⟨gp, offp + m, none⟩ = some (.int .u64 y) := fun x => pw_cell_below (stay1 (stay0 wr) x.below) c4
                    clear c3 c4 hmp hm
                    go_wp2_with fail
                    refine Q.wp_region_segs none [([0, 1, 2, 3, 4, 5, 6, 7, 8, 9, 10, 11, 12, 13, 14, 15, 16, 17, 18, 19, 20, 21, 22, 23, 24, 25, 26, 27, 28, 29, 30, 31, 32, 33, 34], none)] (by kernel_rfl) (by kernel_rfl) (by kernel_rfl) (by kernel_rfl) ?_
                    dsimp only [Q.wpSegs, Q.picks, Q.pick]
                    repeat (go_big_quiet_step (fail))
                    refine wpQuiet_nil ?_
                    refine NoPanic.normal ?_
                    clear q1 q2 z1 z3 t3 t3' t4 t4'
                    go_wp2_with fail
                    go_roundg g2
                    case measure => have := HJ'.out; omega
                    case rel => exact ⟨m + 1, by go_num, Lib.hid (by have := HJ'.out; omega), Lib.hid HBr.out.drew⟩
                  · have hmq : m - P.length < Q2.length := by have := HNN.out; omega
                    rcases (C_open HQ.out).2 with e | ⟨gq, offq, rfl, hgq, hcq⟩
                    · rw [e] at hmq; simp at hmq
                    have c4 := pw_cell_below HBr.out (hcq (m - P.length) hmq)
                    rw [show (P ++ Q2).getD m 0 = Q2.getD (m - P.length) 0 from by simp only [List.getD_eq_getElem?_getD]; rw [List.getElem?_append_right (by omega)]] at c3
                    clear hcq hgq
                    obtain ⟨j2, hj2⟩ : ∃ j2, m - P.length = j2 := ⟨_, rfl⟩
                    rw [hj2] at c3 c4 hmq
                    generalize Q2.getD j2 0 = y at c3 c4
                    have z3 : (m : Int) - (P.length : Int) = (j2 : Int) := by omega
                    have z4 : (0 : Int) ≤ (j2 : Int) := by omega
                    have z5 : (j2 : Int) < (Q2.length : Int) := by omega
                    have s3 : IntKind.i64.wrap ((m : Int) - (P.length : Int)) = (j2 : Int) := by rw [z3]; exact IntWalk.i64_in _ (by omega)
                    have t3 : decide ((m : Int) < (P.length : Int)) = false := decide_eq_false (by omega)
                    have t3' : decide (m < P.length) = false := decide_eq_false hmp
                    have t4 : decide ((P.length : Int) ≤ (m : Int)) = true := decide_eq_true (by omega)
                    have t4' : decide (P.length ≤ m) = true := decide_eq_true (by omega)
                    have q1 : ∀ x : Q.GW wr.drew wr.heap.size none, x.w.cell? ⟨ga, offa + m, none⟩ = some (.int .u64 y) := fun x => pw_cell_below (stay1 (stay0 wr) x.below) c3
                    have q2 : ∀ x : Q.GW wr.drew wr.heap.size none, x.w.cell? ⟨gq, offq + j2, none⟩ = some (.int .u64 y) := fun x => pw_cell_below (stay1 (stay0 wr) x.below) c4
                    clear c3 c4 hmp hm hj2
                    go_wp2_with fail
                    refine Q.wp_region_segs none [([0, 1, 2, 3, 4, 5, 6, 7, 8, 9, 10, 11, 12, 13, 14, 15, 16, 17, 18, 19, 20, 21, 22, 23, 24, 25, 26, 27, 28, 29, 30, 31, 32, 33, 34], none)] (by kernel_rfl) (by kernel_rfl) (by kernel_rfl) (by kernel_rfl) ?_
                    dsimp only [Q.wpSegs, Q.picks, Q.pick]
                    repeat (go_big_quiet_step (fail))
                    refine wpQuiet_nil ?_
                    refine NoPanic.normal ?_
                    clear q1 q2 z1 z3 z4 z5 s3 t3 t3' t4 t4'
                    go_wp2_with fail
                    go_roundg g2
                    case measure => have := HJ'.out; omega
                    case rel => exact ⟨m + 1, by go_num, Lib.hid (by have := HJ'.out; omega), Lib.hid HBr.out.drew⟩
                · clear HJ
                  go_wp2_with (go_at_call 35; refine (alive01 _).mono ?_; rintro e wy ⟨rfl, hb⟩; (have HBy := Lib.hid hb); clear hb)
                  go_ret
                  exact ⟨rfl, stay1 HB1.out (stay1 HBZ.out (stay1 HBr.out HBy.out))⟩
          · rw [hi1, Nat.zero_add] at HFI2
            subst HFI2
            rw [hi2] at HX HY ⊢
            have HI1 := HFI
            clear HFI
            dsimp only [Option.getD, Option.isSome] at HX HY ⊢
            rcases (F_open HC.out).2 with e | ⟨bo, off, rfl, hbo, hcells⟩
            · subst e; simp at hj
            obtain ⟨_, Aj, cj, e1, hcj, hCj⟩ := hcells j hj
            obtain ⟨dj, hdj⟩ : ∃ dj, (l.getD j zF).2 = dj := ⟨_, rfl⟩
            rw [hdj] at HX HY e1 hcj hCj ⊢
            have HJL := Lib.hid hj
            have z1 : (0 : Int) ≤ (j : Int) := by omega
            have z2 : (j : Int) < (l.length : Int) := by omega
            have t3 : decide ((j : Int) < 0) = false := decide_eq_false (by omega)
            have t4 : decide ((0 : Int) ≤ (j : Int)) = true := decide_eq_true (by omega)
            have q0 : ∀ x : Q.GW w10.drew w10.heap.size none, x.w.cell? ⟨bo, off + j * 2 + 1, none⟩ = some (.slice Aj dj.length cj) := fun x => pw_cell_below (stay1 HB10.out.drew x.below) e1
            have q1 : ∀ x : Q.GW w10.drew w10.heap.size none, (convert 25 9 (.slice A9 dj.length c9)).run Try.prog x.w = .ok (.string (strOfNums dj)) x.w := fun x => Kd.C_string Try.underlying25 Try.underlying5 Try.underlying9 (Kd.C_below HX.out (stay1 (stay0 w10) x.below))
            have q2 : ∀ x : Q.GW w10.drew w10.heap.size none, (convert 25 9 (.slice A10 dj.length c10)).run Try.prog x.w = .ok (.string (strOfNums dj)) x.w := fun x => Kd.C_string Try.underlying25 Try.underlying5 Try.underlying9 (Kd.C_below HY.out (stay1 (stay0 w10) x.below))
            have q3 : ∀ x : Q.GW w10.drew w10.heap.size none, (convert 25 9 (.slice Aj dj.length cj)).run Try.prog x.w = .ok (.string (strOfNums dj)) x.w := fun x => Kd.C_string Try.underlying25 Try.underlying5 Try.underlying9 (Kd.C_below hCj (stay1 HB10.out.drew x.below))
            clear hcells e1 hbo hdj hi1 hi2 hj hcj
            go_wp2_with fail
            refine Q.wp_region_segs none [([0, 1, 2, 3, 4, 5, 6, 7, 8, 9, 10, 11, 12, 13, 14, 15, 16, 17, 18, 19, 20, 21, 22, 23, 24, 25, 26, 27, 28, 29, 30, 31, 32, 33, 34, 35, 36, 37, 38, 39, 40, 41, 42, 43, 44, 45, 46], none)] (by kernel_rfl) (by kernel_rfl) (by kernel_rfl) (by kernel_rfl) ?_
            dsimp only [Q.wpSegs, Q.picks, Q.pick]
            repeat (go_big_quiet_step (fail))
            refine wpQuiet_nil ?_
            refine NoPanic.normal ?_
            clear q0 q1 q2 q3 t3 t4 z1 z2
            obtain ⟨wA, hwA⟩ : ∃ wA, wA = w10.drew := ⟨_, rfl⟩
            have HBA := Lib.hid (show Below w1.heap.size w1 wA from hwA ▸ HB10.out.drew)
            rw [← hwA]
            clear hwA HX HY HB10 HI1
            have HN1 := Lib.hid (numbers_any a Aa ca wA (Kd.C_below HA.out HBA.out) HKA.out HOA.out (by have := HLL.out; omega))
            go_wp2_with fail
            refine HN1.out.mono ?_
            rintro e w11 ⟨v15, rfl, hr11, hb11⟩
            obtain ⟨A15, c15, rfl, _, hC15⟩ := Kd.R_reads hr11
            have HB11 := Lib.hid (stay1 HBA.out hb11)
            have HP := Lib.hid hC15
            clear hr11 hb11 hC15 HN1 HBA
            have HN2 := Lib.hid (numbers_any b Ab cb w11 (Kd.C_below HBb.out HB11.out) HKB.out HOB.out (by have := HLL.out; omega))
            go_wp2_with fail
            refine HN2.out.mono ?_
            rintro e w12 ⟨v17, rfl, hr12, hb12⟩
            obtain ⟨A17, c17, rfl, _, hC17⟩ := Kd.R_reads hr12
            have HB12 := Lib.hid (stay1 HB11.out hb12)
            replace HP := Lib.hid (Kd.C_below HP.out hb12)
            have HQ := Lib.hid hC17
            clear hr12 hb12 hC17 HN2 HB11
            go_wp2_with (first
              | (at_builtin; refine appn (w0 := w12) .u8 w12.heap.size (.tmp 137) (.tmp 138) 25 5 1 rfl rfl Try.underlying25 info_u8 (by decide) (.slice (some ⟨w12.heap.size, 0, none⟩) 0 0) [] a Aa a.length ca rfl rfl (R_empty (W := w12) (Nat.le_refl _) 5 rfl) (Kd.C_below HA.out (stay1 HB12.out ((Below.refl _ _).alloc (Nat.le_refl _) _))) ((Below.refl _ _).alloc (Nat.le_refl _) _) (by simp) (by have := HLL.out; simp; omega) ?_; intro v3 w3 hr3 hb3 hg3; (have HE3 := Lib.hid hr3); (have HB3 := Lib.hid hb3); clear hr3 hb3 hg3; obtain ⟨A6, c6, e6, _, hC6⟩ := Kd.R_reads HE3.out; (rw [show (([] : List Int) ++ a).length = a.length from rfl] at e6); subst e6; clear hC6)
              | (at_builtin; refine appn (w0 := w3) .u8 w12.heap.size (.tmp 139) (.tmp 140) 25 5 1 rfl rfl Try.underlying25 info_u8 (by decide) (.slice A6 a.length c6) ([] ++ a) b Ab b.length cb rfl rfl HE3.out (Kd.C_below HBb.out (stay1 HB12.out HB3.out)) (Below.refl _ _) HB3.out.size (by have := HLL.out; simp; omega) ?_; intro v4 w4 hr4 hb4 hg4; (have HE4 := Lib.hid hr4); (have HB4 := Lib.hid hb4); clear hr4 hb4 hg4))
            obtain ⟨A7, c7, e7, hc7, hC7⟩ := Kd.R_reads HE4.out
            rw [show (([] : List Int) ++ a ++ b) = a ++ b from rfl] at e7 hc7 hC7
            subst e7
            have HB24 := Lib.hid (HB3.out.trans HB4.out)
            have HN3 := Lib.hid (numbers_any (a ++ b) A7 c7 w4 hC7 hc7 (fun x hx => (List.mem_append.1 hx).elim (HOA.out x) (HOB.out x)) (by have := HLL.out; simp; omega))
            obtain ⟨nab, hnab⟩ : ∃ nab, (a ++ b).length = nab := ⟨_, rfl⟩
            rw [hnab] at HN3 ⊢
            clear hC7 hc7 hnab HE3 HE4 HB3 HB4
            refine HN3.out.mono ?_
            rintro e w13 ⟨v19, rfl, hr13, hb13⟩
            obtain ⟨A19, c19, rfl, _, hC19⟩ := Kd.R_reads hr13
            have HAL := Lib.hid hC19
            have HBW := Lib.hid (HB24.out.trans (hb13.mono HB24.out.size))
            replace HP := Lib.hid (Kd.C_below HP.out HBW.out)
            replace HQ := Lib.hid (Kd.C_below HQ.out HBW.out)
            have HBZ := Lib.hid (stay1 HB12.out HBW.out)
            clear hC19 hr13 hb13
            clear HB24 HBW HB12 HN3 HA HBb HKA HKB
            obtain ⟨E1, hE1⟩ : ∃ E, (numsR a).2 = E := ⟨_, rfl⟩
            obtain ⟨E2, hE2⟩ : ∃ E, (numsR b).2 = E := ⟨_, rfl⟩
            obtain ⟨E3, hE3⟩ : ∃ E, (numsR (a ++ b)).2 = E := ⟨_, rfl⟩
            rw [hE1, hE2, hE3]
            by_cases h12 : E1 = 0 ∧ E2 = 0
            rotate_left
            · have h12' : E1 ≠ 0 ∨ (E1 = 0 ∧ E2 ≠ 0) := by omega
              clear hE1 hE2 hE3 h12
              rcases h12' with h1 | ⟨h1, h2⟩
              · have t1 : (E1 == 0) = false := beq_eq_false_iff_ne.2 h1
                have t1' : (E1 != 0) = true := by simpa using h1
                clear h1
                go_wp2_with (go_at_call 35; refine (alive01 _).mono ?_; rintro e wy ⟨rfl, hb⟩; (have HBy := Lib.hid hb); clear hb)
                go_ret
                exact ⟨rfl, stay1 HB1.out (stay1 HBZ.out HBy.out)⟩
              · have t1 : (E1 == 0) = true := by simpa using h1
                have t1' : (E1 != 0) = false := by simpa using h1
                have t2 : (E2 == 0) = false := beq_eq_false_iff_ne.2 h2
                have t2' : (E2 != 0) = true := by simpa using h2
                clear h1 h2
                go_wp2_with (go_at_call 35; refine (alive01 _).mono ?_; rintro e wy ⟨rfl, hb⟩; (have HBy := Lib.hid hb); clear hb)
                go_ret
                exact ⟨rfl, stay1 HB1.out (stay1 HBZ.out HBy.out)⟩
            obtain ⟨rfl, rfl⟩ := h12
            have happ := nums_app HOA.out HOB.out hE1 hE2
            rw [happ] at HAL ⊢
            rw [happ] at hE3
            obtain rfl : E3 = 0 := hE3.symm
            clear hE1 hE2 hE3 happ
            obtain ⟨P, hP⟩ : ∃ P, (numsR a).1 = P := ⟨_, rfl⟩
            obtain ⟨Q2, hQ2⟩ : ∃ P, (numsR b).1 = P := ⟨_, rfl⟩
            dsimp only at HAL ⊢
            rw [hP] at HP HAL ⊢
            rw [hQ2] at HQ HAL ⊢
            have hPm := (C_open HP.out).1
            have hQm := (C_open HQ.out).1
            have hAm := (C_open HAL.out).1
            obtain ⟨N, hN⟩ : ∃ N, (P ++ Q2).length = N := ⟨_, rfl⟩
            have hNN : N = P.length + Q2.length := by rw [← hN]; simp
            have hNi : (N : Int) = (P.length : Int) + (Q2.length : Int) := by omega
            rw [hN] at hAm ⊢
            have HNN := Lib.hid (show N = P.length + Q2.length from hNN)
            have HNe := Lib.hid hN
            have tN : ((N : Int) == (P.length : Int) + (Q2.length : Int)) = true := by simpa using hNi
            have tN' : ((N : Int) != (P.length : Int) + (Q2.length : Int)) = false := by simpa using hNi
            have hb63 : (P.length : Int) + (Q2.length : Int) ≤ 9223372036854775807 := by omega
            clear hP hQ2 hN hNN hNi
            go_wp2_with fail
            clear tN tN'
            go_loopg [21] (N + 1) (fun g v21 w' => ∃ (m : Nat), v21 = .int .i64 m ∧ Hid (m ≤ N ∧ N < g + m) ∧ Hid (Below w13.heap.size w13 w'))
            case atStart => exact ⟨0, rfl, Lib.hid ⟨by omega, by omega⟩, Lib.hid (Below.refl _ _)⟩
            case round =>
              obtain ⟨m, rfl, HJ, HBr⟩ := hrel
              cases gk with
              | zero => have := HJ.out; omega
              | succ g2 =>
                by_cases hm : m < N
                · have HJ' := Lib.hid (show m < N ∧ N < (g2 + 1) + m from ⟨hm, HJ.out.2⟩)
                  clear HJ
                  rcases (C_open HAL.out).2 with e | ⟨ga, offa, rfl, hga, hca⟩
                  · have := HNe.out; rw [e] at this; simp at this; omega
                  have c3 := pw_cell_below HBr.out (hca m (by rw [HNe.out]; exact hm))
                  clear hca hga
                  have z1 : (0 : Int) ≤ (m : Int) := by omega
                  have z2 : (m : Int) < (N : Int) := by omega
                  by_cases hmp : m < P.length
                  · rcases (C_open HP.out).2 with e | ⟨gp, offp, rfl, hgp, hcp⟩
                    · rw [e] at hmp; simp at hmp
                    have c4 := pw_cell_below HBr.out (hcp m hmp)
                    rw [show (P ++ Q2).getD m 0 = P.getD m 0 from by simp only [List.getD_eq_getElem?_getD]; rw [List.getElem?_append_left hmp]] at c3
                    clear hcp hgp
                    generalize P.getD m 0 = y at c3 c4
                    have z3 : (m : Int) < (P.length : Int) := by omega
                    have t3 : decide ((m : Int) < (P.length : Int)) = true := decide_eq_true z3
                    have t3' : decide (m < P.length) = true := decide_eq_true hmp
                    have t4 : decide ((P.length : Int) ≤ (m : Int)) = false := decide_eq_false (by omega)
                    have t4' : decide (P.length ≤ m) = false := decide_eq_false (by omega)
                    have q1 : ∀ x : Q.GW wr.drew wr.heap.size none, x.w.cell? ⟨ga, offa + m, none⟩ = some (.int .u64 y) := fun x => pw_cell_below (stay1 (stay0 wr) x.below) c3
                    have q2 : ∀ x : Q.GW wr.drew wr.heap.size none, x.w.cell? ⟨gp, offp + m, none⟩ = some (.int .u64 y) := fun x => pw_cell_below (stay1 (stay0 wr) x.below) c4
                    clear c3 c4 hmp hm
                    go_wp2_with fail
                    refine Q.wp_region_segs none [([0, 1, 2, 3, 4, 5, 6, 7, 8, 9, 10, 11, 12, 13, 14, 15, 16, 17, 18, 19, 20, 21, 22, 23, 24, 25, 26, 27, 28, 29, 30, 31, 32, 33, 34], none)] (by kernel_rfl) (by kernel_rfl) (by kernel_rfl) (by kernel_rfl) ?_
                    dsimp only [Q.wpSegs, Q.picks, Q.pick]
                    repeat (go_big_quiet_step (fail))
                    refine wpQuiet_nil ?_
                    refine NoPanic.normal ?_
                    clear q1 q2 z1 z3 t3 t3' t4 t4'
                    go_wp2_with fail
                    go_roundg g2
                    case measure => have := HJ'.out; omega
                    case rel => exact ⟨m + 1, by go_num, Lib.hid (by have := HJ'.out; omega), Lib.hid HBr.out.drew⟩
                  · have hmq : m - P.length < Q2.length := by have := HNN.out; omega
                    rcases (C_open HQ.out).2 with e | ⟨gq, offq, rfl, hgq, hcq⟩
                    · rw [e] at hmq; simp at hmq
                    have c4 := pw_cell_below HBr.out (hcq (m - P.length) hmq)
                    rw [show (P ++ Q2).getD m 0 = Q2.getD (m - P.length) 0 from by simp only [List.getD_eq_getElem?_getD]; rw [List.getElem?_append_right (by omega)]] at c3
                    clear hcq hgq
                    obtain ⟨j2, hj2⟩ : ∃ j2, m - P.length = j2 := ⟨_, rfl⟩
                    rw [hj2] at c3 c4 hmq
                    generalize Q2.getD j2 0 = y at c3 c4
                    have z3 : (m : Int) - (P.length : Int) = (j2 : Int) := by omega
                    have z4 : (0 : Int) ≤ (j2 : Int) := by omega
                    have z5 : (j2 : Int) < (Q2.length : Int) := by omega
                    have s3 : IntKind.i64.wrap ((m : Int) - (P.length : Int)) = (j2 : Int) := by rw [z3]; exact IntWalk.i64_in _ (by omega)
                    have t3 : decide ((m : Int) < (P.length : Int)) = false := decide_eq_false (by omega)
                    have t3' : decide (m < P.length) = false := decide_eq_false hmp
                    have t4 : decide ((P.length : Int) ≤ (m : Int)) = true := decide_eq_true (by omega)
                    have t4' : decide (P.length ≤ m) = true := decide_eq_true (by omega)
                    have q1 : ∀ x : Q.GW wr.drew wr.heap.size none, x.w.cell? ⟨ga, offa + m, none⟩ = some (.int .u64 y) := fun x => pw_cell_below (stay1 (stay0 wr) x.below) c3
                    have q2 : ∀ x : Q.GW wr.drew wr.heap.size none, x.w.cell? ⟨gq, offq + j2, none⟩ = some (.int .u64 y) := fun x => pw_cell_below (stay1 (stay0 wr) x.below) c4
                    clear c3 c4 hmp hm hj2
                    go_wp2_with fail
                    refine Q.wp_region_segs none [([0, 1, 2, 3, 4, 5, 6, 7, 8, 9, 10, 11, 12, 13, 14, 15, 16, 17, 18, 19, 20, 21, 22, 23, 24, 25, 26, 27, 28, 29, 30, 31, 32, 33, 34], none)] (by kernel_rfl) (by kernel_rfl) (by kernel_rfl) (by kernel_rfl) ?_
                    dsimp only [Q.wpSegs, Q.picks, Q.pick]
                    repeat (go_big_quiet_step (fail))
                    refine wpQuiet_nil ?_
                    refine NoPanic.normal ?_
                    clear q1 q2 z1 z3 z4 z5 s3 t3 t3' t4 t4'
                    go_wp2_with fail
                    go_roundg g2
                    case measure => have := HJ'.out; omega
                    case rel => exact ⟨m + 1, by go_num, Lib.hid (by have := HJ'.out; omega), Lib.hid HBr.out.drew⟩
                · clear HJ
                  go_wp2_with (go_at_call 35; refine (alive01 _).mono ?_; rintro e wy ⟨rfl, hb⟩; (have HBy := Lib.hid hb); clear hb)
                  go_ret
                  exact ⟨rfl, stay1 HB1.out (stay1 HBZ.out (stay1 HBr.out HBy.out))⟩
  case inl =>
    rw [hg] at hG
    have HG := Lib.hid hG
    rw [hw1] at k1
    clear hG k0 hg hlmax
    go_enter Try.func12, Try.ntmps12
    go_wp2_with fail
    rw [← hw1]
    rw [← hw1] at k1
    clear hw1
    refine HG.out.mono ?_
    rintro e wx ⟨rfl, rfl⟩
    go_wp2_with (go_at_call 35; refine (alive01 _).mono ?_; rintro e wy ⟨rfl, hb⟩; (have HBy := Lib.hid hb); clear hb)
    go_ret
    exact ⟨rfl, stay1 HB1.out HBy.out⟩
  all_goals
    rw [hg] at hG
    have HG := Lib.hid hG
    rw [hw1] at k1
    clear hG k0 hg hlmax
    go_enter Try.func12, Try.ntmps12
    go_wp2_with fail
    rw [← hw1]
    rw [← hw1] at k1
    clear hw1
    refine HG.out.mono ?_
    rintro e wx ⟨rfl, rfl⟩
    go_wp2_with (go_at_call 35; refine (alive01 _).mono ?_; rintro e wy ⟨rfl, hb⟩; (have HBy := Lib.hid hb); clear hb)
    go_ret
    exact ⟨rfl, stay1 HB1.out HBy.out⟩
end Go.Proofs.Ytigbmbmngkmdlaa.V
