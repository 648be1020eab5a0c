/-
  vint, the reference: PutFields and Fields.
-/
import Derived.Test.YtigbmbmngkmdlaaFc
import Derived.Test.YtigbmbmngkmdlaaRc
namespace Go.Proofs.Ytigbmbmngkmdlaa.V
open Go.RowKit Go.Proofs.Ytigbmbmngkmdlaa.L Go.Proofs.YtigbmbmngkmdlaaW.PrintWords

set_option maxHeartbeats 1600000 in
set_option maxRecDepth 100000 in
theorem rputfields_any (l : List Fld) (A : Option Addr) (c : Nat) (w : World) (hC : kF.C w A l.length l) :
    Calls Try.prog 58 #[.slice A l.length c] w fun e w' => ∃ v0 : Value, e = .returned (.tuple #[v0, .int .i64 (pfR l).2]) ∧ (Kd.int .u8).R 5 w' w.heap.size (fun _ => True) v0 (pfR l).1 ∧ Below w.heap.size w w' := by
  by_cases h128 : 128 < l.length
  · rw [show pfR l = ([], 5) from if_pos h128]
    go_enter Try.func58, Try.ntmps58
    go_wp2
    go_ret2
    exact ⟨_, rfl, Kd.R_nil _ _ _ _ _, Below.refl _ _⟩
  obtain ⟨_, ho⟩ := F_open hC
  have hR : pfL l [] = pfR l := (if_neg h128).symm
  generalize pfR l = R at hR
  have HR := Lib.hid hR
  have HO := Lib.hid ho
  clear hC hR ho
  go_enter Try.func58, Try.ntmps58
  go_wp2
  go_loopg [4, 5] (l.length + 1) (fun g v4 v5 w' => ∃ (acc : List Int) (m : Nat), v5 = .int .i64 m ∧ Hid (m ≤ l.length ∧ acc.length ≤ m * 20000 ∧ l.length < g + m ∧ pfL (l.drop m) acc = R) ∧ Hid ((Kd.int .u8).R 5 w' w.heap.size (fun _ => True) v4 acc) ∧ Hid (Below w.heap.size w w'))
  case atStart => exact ⟨[], 0, rfl, Lib.hid ⟨by omega, by simp, by omega, HR.out⟩, Lib.hid (Kd.R_nil _ _ _ _ _), Lib.hid (Below.refl _ _)⟩
  case round =>
    obtain ⟨acc, m, rfl, HN, HW, HB⟩ := hrel
    cases gk with
    | zero => have := HN.out; omega
    | succ g =>
      obtain ⟨h1, h2, h3, h4⟩ := HN.out
      have H2 := Lib.hid h2
      clear HN h2
      by_cases hlt : m < l.length
      · rw [drop_cons_getD l zF m hlt, pfL] at h4
        rcases HO.out with e | ⟨b, off, rfl, _, hcells⟩
        · subst e; simp at hlt
        obtain ⟨k1, Aj, cj, k2, hcj, kr⟩ := hcells m hlt
        have KR := Lib.hid kr
        generalize l.getD m zF = f at h4 k1 k2 hcj KR
        obtain ⟨tag, data⟩ := f
        have k1' := pw_cell_below HB.out k1
        have k2' := pw_cell_below HB.out k2
        have K2 := Lib.hid k2
        clear k1 k2 kr hcells
        by_cases hd : 16384 < data.length
        · rw [if_pos hd] at h4
          subst h4
          have t1 : decide ((16384 : Int) < (data.length : Int)) = true := by simp; omega
          go_wp2
          go_ret2
          exact ⟨_, rfl, Kd.R_nil _ _ _ _ _, HB.out⟩
        · rw [if_neg hd] at h4
          have t1 : decide ((16384 : Int) < (data.length : Int)) = false := by simp; omega
          have H4 := Lib.hid h4
          clear h4 HO HR
          go_wp2_with (first
            | (at_builtin; refine app1 (w0 := w) .u8 w.heap.size (.tmp 22) (.tmp 28) 25 5 1 rfl rfl Try.underlying25 info_u8 (by decide) u4 acc tag rfl rfl HW.out HB.out HB.out.size (by have := H2.out; omega) ?_; intro v2 w2 ho2 hb2 hg2; (have HB2 := Lib.hid hb2); (have HW2 := Lib.hid ho2); (have q2 := pw_cell_below HB2.out K2.out); clear ho2 hb2 hg2)
            | (go_at_call 41; refine (rput_any _ _ (by omega)).mono ?_; rintro e w3 ⟨v3, rfl, ho3, hb3⟩; obtain ⟨A3, c3, rfl, hc3, hC3⟩ := Kd.R_reads ho3; (have HB3 := Lib.hid (stay1 HB2.out hb3)); (have HW3 := Lib.hid (Kd.R_below HW2.out hb3)); (have HC3 := Lib.hid hC3); clear ho3 hb3 hC3 hc3)
            | (at_builtin; refine appn (w0 := w) .u8 w.heap.size (.tmp 30) (.tmp 38) 25 5 1 rfl rfl Try.underlying25 info_u8 (by decide) v2 _ _ _ _ _ rfl rfl HW3.out HC3.out HB3.out HB3.out.size (by have := H2.out; simp; have := putL_len data.length; omega) ?_; intro v4 w4 ho4 hb4 _; (have HB4 := Lib.hid hb4); (have HW4 := Lib.hid ho4); (have q4 := pw_cell_below HB4.out K2.out); clear ho4 hb4)
            | (at_builtin; refine appn (w0 := w) .u8 w.heap.size (.tmp 40) (.tmp 45) 25 5 1 rfl rfl Try.underlying25 info_u8 (by decide) v4 _ data _ _ _ rfl rfl HW4.out (Kd.C_below KR.out HB4.out) HB4.out HB4.out.size (by have := H2.out; simp; have := putL_len data.length; omega) ?_; intro v5 w5 ho5 hb5 _; (have HB5 := Lib.hid hb5); (have HW5 := Lib.hid ho5); clear ho5 hb5))
          go_roundg g
          case measure => omega
          case rel => exact ⟨_, m + 1, by go_num, Lib.hid ⟨by omega, by have := H2.out; have := putL_len data.length; simp; omega, by omega, H4.out⟩, HW5, HB5⟩
      · rw [List.drop_eq_nil_of_le (by omega), pfL] at h4
        subst h4
        clear HO HR
        go_wp2
        go_ret2
        exact ⟨_, rfl, HW.out, HB.out⟩

/-- what the reference's Fields hands back: a row that is read -/
def RFl (r : List Fld × Int) (w : World) (e : Ending) (w' : World) : Prop := ∃ A0 c0, e = .returned (.tuple #[.slice A0 r.1.length c0, .int .i64 r.2]) ∧ kF.C w' A0 r.1.length r.1 ∧ Below w.heap.size w w'
set_option maxHeartbeats 1600000 in
set_option maxRecDepth 100000 in
theorem rfields_any (l : List Int) (A : Option Addr) (c : Nat) (w : World) (hC : (Kd.int .u8).C w A l.length l) (hc : l.length ≤ c) (hb : okB l) (hs : l.length ≤ 140737488351232) :
    Calls Try.prog 59 #[.slice A l.length c] w (RFl (fldsR l) w) := by
  have HG := Lib.hid (fun (w' : World) (i : Int) (h : Below w.heap.size w w') => rget_any l A c i w' (Kd.C_below hC h) hc hb)
  have HC0 := Lib.hid hC
  have hR : fldsL (l.length + 1) l [] = fldsR l := rfl
  generalize fldsR l = R at hR
  obtain ⟨hl, ho⟩ := C_open hC
  have HO := Lib.hid ho
  clear hC ho
  go_enter Try.func59, Try.ntmps59
  go_wp2
  go_loopg [4, 5] (l.length + 1) (fun g v4 v5 w' => ∃ (acc : List Fld) (m : Nat), v5 = .int .i64 m ∧ Hid (m ≤ l.length ∧ acc.length ≤ 128 ∧ l.length < g + m ∧ fldsL g (l.drop m) acc = R) ∧ Hid ((kX w).R 111 w' w.heap.size (fun _ => True) v4 acc) ∧ Hid (Below w.heap.size w w'))
  case atStart => exact ⟨[], 0, rfl, Lib.hid ⟨by omega, by simp, by omega, hR⟩, Lib.hid (Kd.R_nil _ _ _ _ _), Lib.hid (Below.refl _ _)⟩
  case round =>
    obtain ⟨acc, m, rfl, HN, HW, HB⟩ := hrel
    cases gk with
    | zero => have := HN.out; omega
    | succ g =>
      obtain ⟨h1, h2, h3, h4⟩ := HN.out
      clear HN
      obtain ⟨A4, c4, rfl, hc4, _⟩ := Kd.R_reads HW.out
      clear hc4
      by_cases hlt : m < l.length
      · rw [drop_cons_getD l 0 m hlt, fldsL] at h4
        by_cases h128 : acc.length = 128
        · rw [if_pos h128] at h4
          subst h4
          have h128' : decide ((128 : Int) ≤ (acc.length : Int)) = true := by simp; omega
          have h128'' : decide (128 ≤ acc.length) = true := by simp; omega
          clear HG HO HC0 h128
          go_wp2
          go_ret2
          exact ⟨none, 0, rfl, Kd.C_nil _ _, HB.out⟩
        rw [if_neg h128] at h4
        have hg := HG.out
        have hgr : getR l ((m : Int) + 1) = if (dec (l.drop (m + 1))).2.2 = 0 then ((dec (l.drop (m + 1))).1, (m : Int) + 1 + (dec (l.drop (m + 1))).2.1, 0) else (0, 0, (dec (l.drop (m + 1))).2.2) := by
          unfold getR; rw [if_neg (by omega), if_neg (by omega)]; rfl
        have hgm := fun w' => hg w' ((m : Int) + 1)
        rw [hgr] at hgm
        clear hgr hg
        have h128' : decide ((128 : Int) ≤ (acc.length : Int)) = false := by simp; omega
        have h128'' : decide (128 ≤ acc.length) = false := by simp; omega
        have hbr : okB (l.drop (m + 1)) := fun x hx => hb x (List.mem_of_mem_drop hx)
        have hbd := dec_bd _ hbr
        by_cases he : (dec (l.drop (m + 1))).2.2 = 0
        · rw [if_pos he] at hgm
          rw [if_neg (by simpa using he)] at h4
          have hdl := dec_len _ he
          simp only [List.length_drop] at hdl h4
          obtain ⟨q, hq⟩ : ∃ q : Nat, (dec (l.drop (m + 1))).2.1 = q := ⟨_, (Int.toNat_of_nonneg (by omega)).symm⟩
          obtain ⟨x, hx⟩ : ∃ x : Nat, (dec (l.drop (m + 1))).1 = x := ⟨_, (Int.toNat_of_nonneg (by omega)).symm⟩
          rw [hq, hx] at h4 hgm
          rw [hq] at hdl
          rw [hx] at hbd
          simp only [Int.toNat_natCast, List.drop_drop] at h4
          obtain ⟨nx, hnx⟩ : ∃ nx : Nat, nx = m + 1 + q := ⟨_, rfl⟩
          rw [show m + 1 + q = nx from hnx.symm] at h4
          have HM : Hid (∀ w' : World, Below w.heap.size w w' → Calls Try.prog 38 #[.slice A l.length c, .int .i64 ((m : Int) + 1)] w' fun e w'' => e = .returned (.tuple #[.int .u64 (x : Int), .int .i64 (nx : Int), .int .i64 0]) ∧ Below w'.heap.size w' w'') := Lib.hid (fun w' hb => (hgm w' hb).mono fun e w'' h => ⟨h.1.trans (by subst hnx; simp [getV]), h.2⟩)
          have hnl : nx ≤ l.length := by omega
          have HNX := Lib.hid hnx
          clear hgm he hq hx hnx HG hbr hdl
          by_cases h16 : (16384 : Int) < (x : Int)
          · rw [if_pos h16] at h4
            subst h4
            clear HO HC0 HNX
            go_wp2_with (go_at_call 38; refine (HM.out _ HB.out).mono ?_; rintro e w1 ⟨rfl, hb1⟩)
            go_ret2
            exact ⟨none, 0, rfl, Kd.C_nil _ _, stay1 HB.out hb1⟩
          rw [if_neg h16] at h4
          by_cases hsh : ((l.length - (m + 1) - q : Nat) : Int) < (x : Int)
          · rw [if_pos hsh] at h4
            subst h4
            have hsh' : decide ((l.length : Int) < (nx : Int) + (x : Int)) = true := by have := HNX.out; simp; omega
            clear HO HC0 HNX hsh
            go_wp2_with (go_at_call 38; refine (HM.out _ HB.out).mono ?_; rintro e w1 ⟨rfl, hb1⟩)
            go_ret2
            exact ⟨none, 0, rfl, Kd.C_nil _ _, stay1 HB.out hb1⟩
          rw [if_neg hsh] at h4
          have hto : nx + x ≤ l.length := by have := HNX.out; omega
          have hsh' : decide ((l.length : Int) < (nx : Int) + (x : Int)) = false := by simp; omega
          obtain ⟨i0, hi0, hz0⟩ := info_of info_u8
          obtain ⟨A', c', hcut, hn', hcc⟩ := cutm .u8 25 5 Try.underlying25 hi0 hz0 A l.length c (nx : Int) ((nx : Int) + (x : Int)) x (by omega) (by omega) (by omega) hc
          have hcc' := fun W h => hcc W l rfl h
          rw [show ((nx : Int) + (x : Int)).toNat = nx + x from by omega, Int.toNat_natCast, List.drop_take, show nx + x - nx = x from by omega] at hcc'
          generalize hdat : (l.drop nx).take x = data at h4 hcc'
          have HCC := Lib.hid hcc'
          have HNC := Lib.hid hn'
          have H4 := Lib.hid h4
          rcases HO.out with e | ⟨b, off, rfl, _, hcells⟩
          · subst e; simp at hlt
          have k0 := hcells m hlt
          generalize l.getD m 0 = t at H4 k0
          have K0 := Lib.hid k0
          have HLT : Hid (∀ k, (Value.slice A4 acc.length c4).ownBlock = some k → k < wr.heap.size) := Lib.hid (fun k hk => Kd.R_lt HW.out k hk)
          have H2 := Lib.hid h2
          clear hi0 hz0 hcc hcc' hn' h4 HO hcells k0 hdat hsh h2
          go_wp2_with (go_at_call 38; refine (HM.out _ HB.out).mono ?_; rintro e w1 ⟨rfl, hb1⟩; (have HB1 := Lib.hid (stay1 HB.out hb1)); (have HW1 := Lib.hid (Kd.R_below HW.out hb1)); (have HSZ := Lib.hid hb1.size); clear hb1)
          have k0' : ∀ n : Q.GW w1.drew w1.heap.size (Value.slice A4 acc.length c4).ownBlock, n.w.cell? ⟨b, off + m, none⟩ = some (.int .u8 t) := fun n => pw_cell_below (HB1.out.drew.trans (n.belowB HB1.out.size (fun k hk => Kd.R_base HW1.out k hk))) K0.out
          refine Q.wp_region_segs (Value.slice A4 acc.length c4).ownBlock [([0, 1, 2, 3, 4, 5, 6, 7, 8, 9, 10, 11, 12], some 13), ([], some 14), ([15], none)] (by kernel_rfl) (by kernel_rfl) (by kernel_rfl) (by kernel_rfl) ?_
          dsimp only [Q.wpSegs, Q.picks, Q.pick]
          repeat (go_big_quiet_step (fail))
          refine wpQuiet_nil ?_
          go_wp2_with fail
          refine Q.ev_keep ((Below.refl _ _).alloc (Nat.le_refl _) _) (Nat.le_refl _) ?_
          refine wpQuiet_nil ?_
          go_wp2_with (first
            | (at_builtin; refine appkb (kX w) (w0 := w) (W := w1.drew) w.heap.size w1.heap.size (.tmp 36) (.tmp 49) 99 111 (.agg #[.int .u8 0, .slice none 0 0]) 32 rfl rfl Try.underlying99 info_G rfl (by show 0 < 2; decide) (by decide) (Value.slice A4 acc.length c4) acc (t, data) [.int .u8 t, .slice A' x c'] rfl rfl ⟨[_], [_], rfl, rfl, ⟨_, _, by rw [(HCC.out w HC0.out).2], by rw [(HCC.out w HC0.out).2]; exact HNC.out, by rw [(HCC.out w HC0.out).2]; exact (HCC.out w HC0.out).1⟩⟩ (fun k hk => Nat.lt_of_lt_of_le (HLT.out k hk) HSZ.out) (Kd.R_drew HW1.out) HB1.out.drew HB1.out.size (by have := H2.out; simp; omega) ?_; intro v3 w3 ho3 hb3 hg3 _; (have HB3 := Lib.hid hb3); (have HW3 := Lib.hid ho3); (have HG3 := Lib.hid hg3); clear ho3 hb3 hg3))
          refine Q.ev_app (row' := (Value.slice A4 acc.length c4).ownBlock) (Q.Gr.of_grown HG3.out (by simp)) (Nat.le_refl _) (Q.NewRow.self _ _) ?_
          repeat (go_big_quiet_step (fail))
          refine wpQuiet_nil ?_
          refine NoPanic.normal ?_
          all_goals go_wp2
          all_goals go_roundg g
          case measure => omega
          case rel => exact ⟨_, nx + x, by go_num, Lib.hid ⟨by omega, by have := H2.out; simp; omega, by have := HNX.out; omega, H4.out⟩, HW3, HB3⟩
        · rw [if_neg he] at hgm
          rw [if_pos he] at h4
          have hne2 : ((dec (l.drop (m + 1))).2.2 != 0) = true := by simpa using he
          generalize (dec (l.drop (m + 1))).2.2 = x at h4 hgm hne2
          have HM : Hid (∀ w' : World, Below w.heap.size w w' → Calls Try.prog 38 #[.slice A l.length c, .int .i64 ((m : Int) + 1)] w' fun e w'' => e = .returned (.tuple #[.int .u64 0, .int .i64 0, .int .i64 x]) ∧ Below w'.heap.size w' w'') := Lib.hid (fun w' hb => (hgm w' hb).mono fun e w'' h => ⟨h.1, h.2⟩)
          subst h4
          clear hgm he HG HO HC0 hbr hbd
          go_wp2_with (go_at_call 38; refine (HM.out _ HB.out).mono ?_; rintro e w1 ⟨rfl, hb1⟩)
          go_ret2
          exact ⟨none, 0, rfl, Kd.C_nil _ _, stay1 HB.out hb1⟩
      · rw [List.drop_eq_nil_of_le (by omega), fldsL] at h4
        subst h4
        clear HG HO HC0
        go_wp2
        go_ret2
        exact ⟨_, _, rfl, kX_read HB.out (Kd.R_reads' HW.out).2.2, HB.out⟩
end Go.Proofs.Ytigbmbmngkmdlaa.V
