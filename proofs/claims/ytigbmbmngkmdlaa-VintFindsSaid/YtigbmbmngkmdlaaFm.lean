/-
  vint: Fields tells the fields of bytes.
-/
import Derived.Test.YtigbmbmngkmdlaaFl
namespace Go.Proofs.Ytigbmbmngkmdlaa.V
open Go.RowKit Go.Proofs.Ytigbmbmngkmdlaa.L Go.Proofs.YtigbmbmngkmdlaaW.PrintWords

theorem info_F : (Try.prog.info? 90).map (fun i => (i.zero, i.size, i.bytes)) = some (some (.agg #[.int .u8 0, .slice none 0 0]), 2, 32) := by kernel_rfl

/-- the fields of bytes, behind others; the error -/
def fldsL : Nat → List Int → List Fld → List Fld × Int
  | 0, _, acc => (acc, 0)
  | _ + 1, [], acc => (acc, 0)
  | k + 1, t :: r, acc =>
    if acc.length = 128 then ([], 5) else
    if (dec r).2.2 ≠ 0 then ([], (dec r).2.2) else
    if 16384 < (dec r).1 then ([], 2) else
    if ((r.drop (dec r).2.1.toNat).length : Int) < (dec r).1 then ([], 10) else
    fldsL k ((r.drop (dec r).2.1.toNat).drop (dec r).1.toNat) (acc ++ [(t, (r.drop (dec r).2.1.toNat).take (dec r).1.toNat)])
def fldsR (l : List Int) : List Fld × Int := fldsL (l.length + 1) l []

theorem dec_bd : ∀ (r : List Int), okB r → 0 ≤ (dec r).1 ∧ (dec r).1 < 4611686018427387904 := by
  intro r h
  have hx : ∀ y z : Int, siz y = z → z ≠ 0 → y < 4611686018427387904 := by
    intro y z h1 h2
    apply Classical.byContradiction
    intro h3
    rw [siz0 (by omega)] at h1
    omega
  unfold dec
  (repeat' split) <;> (first | (simp; done) | skip)
  all_goals simp only [okB, List.forall_mem_cons] at h
  · simp only; omega
  all_goals
    have := hx _ _ (by assumption) (by decide)
    simp only
    omega

set_option maxHeartbeats 1600000 in
set_option maxRecDepth 100000 in
theorem fields_any (l : List Int) (A : Option Addr) (c : Nat) (w : World) (hC : (Kd.int .u8).C w A l.length l) (hc : l.length ≤ c) (hb : okB l) (hs : l.length ≤ 140737488351232) :
    Calls Try.prog 55 #[.slice A l.length c] w fun e w' => ∃ v0 : Value, e = .returned (.tuple #[v0, .int .i64 (fldsR l).2]) ∧ kF.R 90 w' w.heap.size (fun _ => True) v0 (fldsR l).1 ∧ Below w.heap.size w w' := by
  have HG := Lib.hid (fun (w' : World) (i : Int) (h : Below w.heap.size w w') => get_any l A c i w' (Kd.C_below hC h) hc hb)
  have HC0 := Lib.hid hC
  have hR : fldsL (l.length + 1) l [] = fldsR l := rfl
  generalize fldsR l = R at hR
  obtain ⟨hl, ho⟩ := C_open hC
  have HO := Lib.hid ho
  clear hC ho
  go_enter Try.func55, Try.ntmps55
  go_wp2
  go_loopg [4, 5] (l.length + 1) (fun g v4 v5 w' => ∃ (acc : List Fld) (m : Nat), v5 = .int .i64 m ∧ Hid (m ≤ l.length ∧ acc.length ≤ 128 ∧ l.length < g + m ∧ fldsL g (l.drop m) acc = R) ∧ Hid (kF.R 90 w' w.heap.size (fun _ => True) v4 acc) ∧ Hid (Below w.heap.size w w'))
  case atStart => exact ⟨[], 0, rfl, Lib.hid ⟨by omega, by simp, by omega, hR⟩, Lib.hid (Kd.R_nil _ _ _ _ _), Lib.hid (Below.refl _ _)⟩
  case round =>
    obtain ⟨acc, m, rfl, HN, HW, HB⟩ := hrel
    cases gk with
    | zero => have := HN.out; omega
    | succ g =>
      obtain ⟨h1, h2, h3, h4⟩ := HN.out
      clear HN
      obtain ⟨A4, c4, rfl, hc4, _⟩ := Kd.R_reads HW.out
      clear hc4
      by_cases hlt : m < l.length
      · rw [drop_cons_getD l 0 m hlt, fldsL] at h4
        by_cases h128 : acc.length = 128
        · rw [if_pos h128] at h4
          subst h4
          have h128' : ((acc.length : Int) == 128) = true := by simp; omega
          have h128'' : (acc.length == 128) = true := by simp; omega
          clear HG HO HC0 h128
          go_wp2
          go_ret2
          exact ⟨_, rfl, Kd.R_nil _ _ _ _ _, HB.out⟩
        rw [if_neg h128] at h4
        have hg := HG.out
        have hgr : getR l ((m : Int) + 1) = if (dec (l.drop (m + 1))).2.2 = 0 then ((dec (l.drop (m + 1))).1, (m : Int) + 1 + (dec (l.drop (m + 1))).2.1, 0) else (0, 0, (dec (l.drop (m + 1))).2.2) := by
          unfold getR; rw [if_neg (by omega), if_neg (by omega)]; rfl
        have hgm := fun w' => hg w' ((m : Int) + 1)
        rw [hgr] at hgm
        clear hgr hg
        have h128' : ((acc.length : Int) == 128) = false := by simp; omega
        have h128'' : (acc.length == 128) = false := by simp; omega
        have hbr : okB (l.drop (m + 1)) := fun x hx => hb x (List.mem_of_mem_drop hx)
        have hbd := dec_bd _ hbr
        by_cases he : (dec (l.drop (m + 1))).2.2 = 0
        · rw [if_pos he] at hgm
          rw [if_neg (by simpa using he)] at h4
          have hdl := dec_len _ he
          simp only [List.length_drop] at hdl h4
          obtain ⟨q, hq⟩ : ∃ q : Nat, (dec (l.drop (m + 1))).2.1 = q := ⟨_, (Int.toNat_of_nonneg (by omega)).symm⟩
          obtain ⟨x, hx⟩ : ∃ x : Nat, (dec (l.drop (m + 1))).1 = x := ⟨_, (Int.toNat_of_nonneg (by omega)).symm⟩
          rw [hq, hx] at h4 hgm
          rw [hq] at hdl
          rw [hx] at hbd
          simp only [Int.toNat_natCast, List.drop_drop] at h4
          obtain ⟨nx, hnx⟩ : ∃ nx : Nat, nx = m + 1 + q := ⟨_, rfl⟩
          rw [show m + 1 + q = nx from hnx.symm] at h4
          have HM : Hid (∀ w' : World, Below w.heap.size w w' → Calls Try.prog 37 #[.slice A l.length c, .int .i64 ((m : Int) + 1)] w' fun e w'' => e = .returned (.tuple #[.int .u64 (x : Int), .int .i64 (nx : Int), .int .i64 0]) ∧ Below w'.heap.size w' w'') := Lib.hid (fun w' hb => (hgm w' hb).mono fun e w'' h => ⟨h.1.trans (by subst hnx; simp [getV]), h.2⟩)
          have hnl : nx ≤ l.length := by omega
          have HNX := Lib.hid hnx
          clear hgm he hq hx hnx HG hbr hdl
          by_cases h16 : (16384 : Int) < (x : Int)
          · rw [if_pos h16] at h4
            subst h4
            clear HO HC0 HNX
            go_wp2_with (go_at_call 37; refine (HM.out _ HB.out).mono ?_; rintro e w1 ⟨rfl, hb1⟩)
            go_ret2
            exact ⟨_, rfl, Kd.R_nil _ _ _ _ _, stay1 HB.out hb1⟩
          rw [if_neg h16] at h4
          by_cases hsh : ((l.length - (m + 1) - q : Nat) : Int) < (x : Int)
          · rw [if_pos hsh] at h4
            subst h4
            have hsh' : decide ((l.length : Int) - (nx : Int) < (x : Int)) = true := by have := HNX.out; simp; omega
            clear HO HC0 HNX hsh
            go_wp2_with (go_at_call 37; refine (HM.out _ HB.out).mono ?_; rintro e w1 ⟨rfl, hb1⟩)
            go_ret2
            exact ⟨_, rfl, Kd.R_nil _ _ _ _ _, stay1 HB.out hb1⟩
          rw [if_neg hsh] at h4
          have hto : nx + x ≤ l.length := by have := HNX.out; omega
          have hsh' : decide ((l.length : Int) - (nx : Int) < (x : Int)) = false := by simp; omega
          obtain ⟨i0, hi0, hz0⟩ := info_of info_u8
          obtain ⟨A', c', hcut, hn', hcc⟩ := cutm .u8 25 5 Try.underlying25 hi0 hz0 A l.length c (nx : Int) ((nx : Int) + (x : Int)) x (by omega) (by omega) (by omega) hc
          have hcc' := fun W h => hcc W l rfl h
          rw [show ((nx : Int) + (x : Int)).toNat = nx + x from by omega, Int.toNat_natCast, List.drop_take, show nx + x - nx = x from by omega] at hcc'
          generalize hdat : (l.drop nx).take x = data at h4 hcc'
          have HCC := Lib.hid hcc'
          have H4 := Lib.hid h4
          rcases HO.out with e | ⟨b, off, rfl, _, hcells⟩
          · subst e; simp at hlt
          have k0 := hcells m hlt
          generalize l.getD m 0 = t at H4 k0
          have k0' : ∀ w' : World, Below w.heap.size w w' → w'.cell? ⟨b, off + m, none⟩ = some (.int .u8 t) := fun w' hb => pw_cell_below hb k0
          have HLT : Hid (∀ k, (Value.slice A4 acc.length c4).ownBlock = some k → k < wr.heap.size) := Lib.hid (fun k hk => Kd.R_lt HW.out k hk)
          have H2 := Lib.hid h2
          clear hi0 hz0 hcc hcc' h4 HO hcells k0 hdat hsh h2
          go_wp2_with (go_at_call 37; refine (HM.out _ HB.out).mono ?_; rintro e w1 ⟨rfl, hb1⟩; (have HB1 := Lib.hid (stay1 HB.out hb1)); (have HW1 := Lib.hid (Kd.R_below HW.out hb1)); (have HSZ := Lib.hid hb1.size); clear hb1)
          go_region_held3 (fun w' => Below w.heap.size w w') (first | exact HB1.out.drew | exact HB2.out | exact HB2.out.alloc HB2.out.size _ | exact HB3.out) (first
            | ((go_at_call 61; refine (S.clone_n data x (HCC.out w (HC0.out)).2 A' c' _ (Kd.C_below (HCC.out w HC0.out).1 HB1.out.drew) (by omega)).mono ?_; rintro e w2 ⟨v2, rfl, ho2, hb2⟩; obtain ⟨A2, c2, rfl, _, _⟩ := Kd.R_reads ho2; (have HB2 := Lib.hid (stay1 HB1.out.drew hb2)); (have HW2 := Lib.hid (Kd.R_below (Kd.R_drew HW1.out) hb2)); (have HO2 := Lib.hid ho2); clear ho2 hb2))
            | ((refine appk_step (w0 := w) kF w.heap.size w1.heap.size (.tmp 44) (.tmp 55) 88 90 (.agg #[.int .u8 0, .slice none 0 0]) 32 rfl (by rfl) Try.underlying88 info_F rfl (by decide) (by decide) (Value.slice A4 acc.length c4) acc (t, data) [.int .u8 t, .slice A2 data.length c2] (by rfl) (by rfl) ⟨[_], [_], rfl, rfl, _, rfl, R_up HO2.out HB1.out.size⟩ (fun k hk => Nat.lt_of_lt_of_le (HLT.out k hk) HSZ.out) HW2.out HB2.out HB2.out.size (by have := H2.out; omega) ?_; intro v3 w3 ho3 hb3 _; (have HB3 := Lib.hid hb3); (have HW3 := Lib.hid ho3); clear ho3 hb3)))
          all_goals go_wp2
          all_goals go_roundg g
          case measure => omega
          case rel => exact ⟨_, nx + x, by go_num, Lib.hid ⟨by omega, by have := H2.out; simp; omega, by have := HNX.out; omega, H4.out⟩, HW3, HB3⟩
        · rw [if_neg he] at hgm
          rw [if_pos he] at h4
          have hne2 : ((dec (l.drop (m + 1))).2.2 != 0) = true := by simpa using he
          generalize (dec (l.drop (m + 1))).2.2 = x at h4 hgm hne2
          have HM : Hid (∀ w' : World, Below w.heap.size w w' → Calls Try.prog 37 #[.slice A l.length c, .int .i64 ((m : Int) + 1)] w' fun e w'' => e = .returned (.tuple #[.int .u64 0, .int .i64 0, .int .i64 x]) ∧ Below w'.heap.size w' w'') := Lib.hid (fun w' hb => (hgm w' hb).mono fun e w'' h => ⟨h.1, h.2⟩)
          subst h4
          clear hgm he HG HO HC0 hbr hbd
          go_wp2_with (go_at_call 37; refine (HM.out _ HB.out).mono ?_; rintro e w1 ⟨rfl, hb1⟩)
          go_ret2
          exact ⟨_, rfl, Kd.R_nil _ _ _ _ _, stay1 HB.out hb1⟩
      · rw [List.drop_eq_nil_of_le (by omega), fldsL] at h4
        subst h4
        clear HG HO HC0
        go_wp2
        go_ret2
        exact ⟨_, rfl, HW.out, HB.out⟩
end Go.Proofs.Ytigbmbmngkmdlaa.V
