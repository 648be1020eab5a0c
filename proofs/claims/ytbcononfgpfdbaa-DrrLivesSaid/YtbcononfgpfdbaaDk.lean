/-
  drr: the law DrrCircle, walked.
-/
import Derived.Test.YtbcononfgpfdbaaDg
import Derived.Test.YtbcononfgpfdbaaDj
namespace Go.Proofs.Ytbcononfgpfdbaa.D
open Go.RowKit Go.Proofs.Ytbcononfgpfdbaa.L Go.Proofs.YtbcononfgpfdbaaW.PrintWords

abbrev tU : TypeId := 29
theorem info_u64 : (Try.prog.info? tU).map (fun i => (i.zero, i.size, i.bytes)) = some (some (.int .u64 0), 1, 8) := by kernel_rfl
/-- a row of another kind stays behind a ring's call -/
theorem R_ring {k : IntKind} {e B B1 : Nat} {w w1 : World} {v : Value} {xs : List Int} (h : (Kd.int k).R e w B (fun _ => True) v xs) (hf : FR B1 w w1) (h1 : e ≠ tR) (h2 : e ≠ tM) : (Kd.int k).R e w1 B (fun _ => True) v xs :=
  Kd.R_mono (Kd.R_move (Kd.R_bound h) (fun g hg => by
    obtain ⟨_, _, _, q, hq, cells, hc⟩ := hg
    simp [show (Kd.int k).E = [] from rfl] at hq
    subst hq
    exact hf.typ g _ _ _ hc h1 h2)) (fun _ _ => trivial)
/-- a ring stays behind a write into a row of another kind -/
theorem RG.row {k : IntKind} {b B B1 e : Nat} {q : Int} {L : List Mem} {w w1 : World} {v : Value} {xs : List Int} (h : RG b q L B w) (hv : (Kd.int k).R e w B1 (fun _ => True) v xs) (h1 : e ≠ tR) (h2 : e ≠ tM) (hg : w.grownBy w1 v.ownBlock) : RG b q L B w1 := by
  obtain ⟨u, a1, a2, a3⟩ := h
  exact ⟨u, blk_grown a1 hg (Kd.R_ne hv a1 h1), a2, Kd.R_over a3 hv (by intro q hq; simp [show kM.E = [] from rfl] at hq; subst hq; exact Ne.symm h2) hg⟩
theorem cutfU (A : Option Addr) (n c lo : Nat) (h1 : lo ≤ n) (hc : n ≤ c) :
    ∃ A' c', (∀ W : World, (Instr.slice 39 (.slice A n c) (some (.int .i64 (lo : Int))) none none).run Try.prog W = .ok (.slice A' (n - lo) c') W) ∧
      ∀ (W : World) (l : List Int), (Kd.int .u64).C W A n l → (Kd.int .u64).C W A' (n - lo) (l.drop lo) := by
  obtain ⟨i0, hi0, hz0⟩ := info_of info_u64
  refine ⟨_, _, fun W => (cut_from 39 tU .i64 Try.underlying39 hi0 1 hz0 A n c lo (by omega) (by omega) W), ?_⟩
  intro W l hC
  have hl := hC.1
  rw [← hl] at hC
  have h := Kd.C_mid (xs := l) (lo := lo) (hi := n) (c := c) hC (by omega) (by omega) (by omega)
  have hlen : (l.drop lo).length = n - lo := by simp; omega
  rw [List.take_of_length_le (by omega), hlen] at h
  exact h
theorem cuttU (A : Option Addr) (n c hi : Nat) (h1 : hi ≤ n) (hc : n ≤ c) :
    (∀ W : World, (Instr.slice 39 (.slice A n c) none (some (.int .i64 (hi : Int))) none).run Try.prog W = .ok (.slice A hi c) W) ∧
      ∀ (W : World) (l : List Int), (Kd.int .u64).C W A n l → (Kd.int .u64).C W A hi (l.take hi) := by
  obtain ⟨i0, hi0, hz0⟩ := info_of info_u64
  refine ⟨fun W => (cut_to 39 tU .i64 Try.underlying39 hi0 A n c hi (by omega) (by omega) hc W), ?_⟩
  intro W l hC
  have hl := hC.1
  rw [← hl] at hC
  have h := Kd.C_take hC (m := hi) (by omega)
  rwa [show (l.take hi).length = hi from by simp; omega] at h
theorem gr_low {B : Nat} {W w : World} (h : Below B W w) (hs : W.heap.size ≤ w.heap.size) : Q.Gr B none W w := ⟨h.os, h.tape, h.output, hs, fun k hk _ => h.block k hk⟩

theorem row_cell {k : IntKind} {e B bo off n c : Nat} {ok : Nat → Prop} {w : World} {xs : List Int} (h : (Kd.int k).R e w B ok (.slice (some ⟨bo, off, none⟩) n c) xs) {j : Nat} (hj : j < xs.length) : w.cell? ⟨bo, off + j, none⟩ = some (.int k (xs.getD j 0)) := by
  have hC := (Kd.R_reads' h).2.2
  rcases (C_open hC).2 with e | ⟨b, o, he, _, hc⟩
  · subst e; simp at hj
  · injection he with he
    injection he with h1 h2
    subst h1 h2
    exact hc j hj
theorem nodup_rm {xs : List Int} {k : Nat} (h : xs.Nodup) (hl : xs.length ≤ 16) : (xs.take k ++ xs.drop (k + 1)).Nodup ∧ (xs.take k ++ xs.drop (k + 1)).length ≤ 16 := by
  have hs : (xs.take k ++ xs.drop (k + 1)).Sublist xs := by
    conv => rhs; rw [← List.take_append_drop k xs]
    refine List.Sublist.append (List.Sublist.refl _) ?_
    rw [show xs.drop (k + 1) = (xs.drop k).drop 1 from by rw [List.drop_drop]]
    exact List.drop_sublist 1 _
  exact ⟨h.sublist hs, Nat.le_trans hs.length_le hl⟩
/-- the law's state: the ring, the list -/
structure CS (b : Nat) (L : List Mem) (v : Value) (xs : List Int) (w0 w : World) : Prop where
  rg : RG b 1 L w0.heap.size w
  row : (Kd.int .u64).R tU w w0.heap.size (fun _ => True) v xs
  fr : Below w0.heap.size w0 w
theorem CS.ring {b : Nat} {L L' : List Mem} {v : Value} {xs : List Int} {w0 w w1 : World} (h : CS b L v xs w0 w) (hr : RG b 1 L' w0.heap.size w1) (hf : FR w0.heap.size w w1) : CS b L' v xs w0 w1 :=
  ⟨hr, R_ring h.row hf (by decide) (by decide), h.fr.trans hf.below⟩
theorem CS.below {b : Nat} {L : List Mem} {v : Value} {xs : List Int} {w0 w w1 : World} (h : CS b L v xs w0 w) (hb : Below w.heap.size w w1) : CS b L v xs w0 w1 :=
  ⟨h.rg.below hb, Kd.R_below h.row hb, stay1 h.fr hb⟩

set_option maxHeartbeats 6400000 in
set_option maxRecDepth 100000 in
theorem circle_walk (ids : List Int) (A : Option Addr) (c : Nat) (gone : Int) (w : World) (hn : 0 ≤ gone ∧ gone < 256) (hC : (Kd.int .u64).C w A ids.length ids) :
    Calls Try.prog 5 #[.slice A ids.length c, .int .u8 gone] w fun e w' => e = .returned (.bool true) ∧ Below w.heap.size w w' := by
  have HN := Lib.hid (new_yes 1 w (by decide) (by decide))
  have HC := Lib.hid hC
  have hlm := (C_open hC).1
  clear hC
  go_enter Try.func5, Try.ntmps5
  go_wp2_with fail
  refine HN.out.mono ?_
  rintro e w0 ⟨b, rfl, hg, hb⟩
  have HS := Lib.hid (show CS b (Lof []) (.slice none 0 0) [] w w0 from ⟨hg, Kd.R_nil _ _ _ _ _, hb⟩)
  clear hg hb HN
  go_wp2_with fail
  go_loopg [7, 8] (ids.length + 2) (fun g v7 v8 w' => ∃ (i : Nat) (xs : List Int), v8 = .int .i64 i ∧ Hid (i ≤ ids.length ∧ i ≤ 40 ∧ ids.length < g + i) ∧ Hid (CS b (Lof xs) v7 xs w w') ∧ Hid (xs.Nodup ∧ xs.length ≤ 16))
  case atStart => exact ⟨0, [], rfl, Lib.hid ⟨by omega, by omega, by omega⟩, HS, Lib.hid ⟨by simp, by simp⟩⟩
  case round =>
    clear HS
    obtain ⟨i, xs, rfl, HJ, HS, HX⟩ := hrel
    cases gk with
    | zero => have := HJ.out; omega
    | succ k =>
      obtain ⟨A3, c3, rfl, hc3, hC3⟩ := Kd.R_reads HS.out.row
      by_cases hlt : i < ids.length ∧ i < 40
      · obtain ⟨hlt, hlt2⟩ := hlt
        have HJ' := Lib.hid (show i < ids.length ∧ i < 40 ∧ ids.length < (k + 1) + i from ⟨hlt, hlt2, HJ.out.2.2⟩)
        clear HJ hC3 hc3
        rcases (C_open HC.out).2 with e | ⟨bo, off, rfl, hbo, hcells⟩
        · subst e; simp at hlt
        have c0 := (HS.out.fr.cell (p := ⟨bo, off + i, none⟩) hbo).trans (hcells i hlt)
        have HBO := Lib.hid hbo
        have HCE := Lib.hid (hcells i hlt)
        clear hcells hbo
        generalize ids.getD i 0 = y at c0 HCE
        have HA := add_any b w.heap.size 1 (Lof xs) y wr HS.out.rg (by decide) (by rw [Lof_length]; exact HX.out.2)
        rw [add_Lof] at HA
        by_cases hin : y ∈ xs
        · rw [if_pos hin] at HA
          have HA := Lib.hid HA
          clear hin
          go_wp2_with fail
          refine HA.out.mono ?_
          rintro e w1 ⟨rfl, hg1, hf1⟩
          have HS1 := Lib.hid (HS.out.ring hg1 hf1)
          clear hg1 hf1 HA c0 HS
          go_wp2_with fail
          go_roundg k
          case measure => have := HJ'.out; omega
          case rel => exact ⟨i + 1, xs, by go_num, Lib.hid (by have := HJ'.out; omega), HS1, HX⟩
        rw [if_neg hin] at HA
        by_cases hfull : 16 ≤ xs.length
        · rw [if_pos hfull] at HA
          have HA := Lib.hid HA
          clear hin hfull
          go_wp2_with fail
          refine HA.out.mono ?_
          rintro e w1 ⟨rfl, hg1, hf1⟩
          have HS1 := Lib.hid (HS.out.ring hg1 hf1)
          clear hg1 hf1 HA c0 HS
          go_wp2_with fail
          go_roundg k
          case measure => have := HJ'.out; omega
          case rel => exact ⟨i + 1, xs, by go_num, Lib.hid (by have := HJ'.out; omega), HS1, HX⟩
        · rw [if_neg hfull] at HA
          have HA := Lib.hid HA
          have HX' := Lib.hid (show (xs ++ [y]).Nodup ∧ (xs ++ [y]).length ≤ 16 from ⟨nodup_snoc HX.out.1 hin, by simp; omega⟩)
          clear hin hfull
          go_wp2_with fail
          refine HA.out.mono ?_
          rintro e w1 ⟨rfl, hg1, hf1⟩
          have HS1 := Lib.hid (HS.out.ring hg1 hf1)
          clear hg1 hf1 HA c0 HS
          have c0 := (HS1.out.fr.cell (p := ⟨bo, off + i, none⟩) HBO.out).trans HCE.out
          have HS2 := Lib.hid (HS1.out.below ((Below.refl w1.heap.size w1).alloc (Nat.le_refl _) (.cells #[.int .u64 y] tU)))
          go_wp2_with (at_builtin; refine app1 (w0 := w) .u64 w.heap.size (.tmp 44) (.tmp 49) 39 29 8 rfl rfl Try.underlying39 info_u64 (by decide) (.slice A3 xs.length c3) xs y rfl rfl HS1.out.row HS1.out.fr HS1.out.fr.size (by have := HX.out; omega) ?_; intro v3 w3 hr3 hb3 hg3; (have HS3 := Lib.hid (show CS b (Lof (xs ++ [y])) v3 (xs ++ [y]) w w3 from ⟨HS1.out.rg.row HS1.out.row (by decide) (by decide) hg3, hr3, hb3⟩)); clear hr3 hb3 hg3)
          clear c0 HS1 HS2
          go_roundg k
          case measure => have := HJ'.out; omega
          case rel => exact ⟨i + 1, _, by go_num, Lib.hid (by have := HJ'.out; omega), HS3, HX'⟩
      · have hlt' : ¬ (i : Int) < (ids.length : Int) ∨ ((i : Int) < (ids.length : Int) ∧ ¬ (i : Int) < 40) := by omega
        clear hlt HJ
        by_cases hx1 : xs.length ≤ 1
        · have hx1' : ¬ (1 : Int) < (xs.length : Int) := by omega
          clear hC3 hc3
          rcases hlt' with hlt | ⟨hlt, hlt2⟩
          all_goals
            go_wp2_with fail
            clear hx1' hx1 hlt
            have hx16 := HX.out.2
            go_loopg [11] (3 * xs.length + 2) (fun g v11 w' => ∃ (i2 : Nat) (L : List Mem), v11 = .int .i64 i2 ∧ Hid (i2 ≤ 3 * xs.length ∧ 3 * xs.length < g + i2) ∧ Hid (CS b L (.slice A3 xs.length c3) xs w w') ∧ Hid (CircL xs i2 L))
            case atStart => exact ⟨0, _, rfl, Lib.hid ⟨by omega, by omega⟩, HS, Lib.hid (circ_start xs)⟩
            case round =>
              clear HS
              obtain ⟨i2, L, rfl, HJ, HS, HL⟩ := hrel
              cases gk with
              | zero => have := HJ.out; omega
              | succ k2 =>
                by_cases hlt : i2 < 3 * xs.length
                · have HJ' := Lib.hid (show i2 < 3 * xs.length ∧ 3 * xs.length < (k2 + 1) + i2 from ⟨hlt, HJ.out.2⟩)
                  have hlen := HL.out.len
                  obtain ⟨h, r, rfl⟩ : ∃ h r, L = h :: r := by
                    cases L with
                    | nil => exact absurd hlen (by simp; omega)
                    | cons h r => exact ⟨h, r, rfl⟩
                  have hmod : i2 % xs.length < xs.length := Nat.mod_lt _ (by omega)
                  have HT := Lib.hid (turn_any b w.heap.size 1 (h :: r) wr HS.out.rg (by decide))
                  rw [if_neg (by simp), show headId (h :: r) = h.1 from rfl, circ_head HL.out, show decide (0 < (h :: r).length) = true from by simp] at HT
                  obtain ⟨hsp, hcl⟩ := circ_spend HL.out (by omega)
                  have HP := spend_any b w.heap.size 1 (h :: r) 65536 wr HS.out.rg (by decide) (by omega) (fun m hm => by have := HL.out.sm m hm; omega)
                  rw [hsp] at HP
                  have HP := Lib.hid HP
                  have HCL := Lib.hid hcl
                  rcases (C_open (Kd.R_reads' HS.out.row).2.2).2 with e | ⟨bo, off, rfl, _, _⟩
                  · rw [e] at hmod; simp at hmod
                  have HMOD := Lib.hid hmod
                  clear hsp hcl hlen HJ hmod
                  obtain ⟨y, hy⟩ : ∃ y, xs.getD (i2 % xs.length) 0 = y := ⟨_, rfl⟩
                  rw [hy] at HT
                  have HY := Lib.hid hy
                  clear hy
                  go_wp2_with fail
                  refine HT.out.mono ?_
                  rintro e _ ⟨rfl, rfl⟩
                  clear HT
                  go_wp2_with fail
                  refine HP.out.mono ?_
                  rintro e w1 ⟨rfl, hg1, hf1⟩
                  have HS1 := Lib.hid (HS.out.ring hg1 hf1)
                  clear hg1 hf1 HP HS
                  have c0 := row_cell HS1.out.row HMOD.out
                  rw [HY.out] at c0
                  have z1 : i2 % xs.length < xs.length := HMOD.out
                  have z2 : (0 : Int) < (xs.length : Int) := by omega
                  go_wp2_with fail
                  go_roundg k2
                  case measure => have := HJ'.out; omega
                  case rel => exact ⟨i2 + 1, _, by go_num, Lib.hid (by have := HJ'.out; omega), HS1, HCL⟩
                · have HLL := Lib.hid (show (L.map (·.1)).length = xs.length from by rw [List.length_map]; exact HL.out.len)
                  clear HJ
                  go_wp2_with fail
                  refine (alive_any wr).mono ?_
                  rintro e w1 ⟨rfl, hb1⟩
                  have HS1 := Lib.hid (HS.out.below hb1)
                  clear hb1 HS
                  go_wp2_with fail
                  refine (members_any b w.heap.size 1 L w1 HS1.out.rg (by decide) (by have := HLL.out; rw [List.length_map] at this; omega)).mono ?_
                  rintro e w2 ⟨v2, rfl, hr2, hb2⟩
                  obtain ⟨A6, c6, hv6, _, _⟩ := Kd.R_reads hr2
                  rw [HLL.out] at hv6
                  subst hv6
                  have HB2 := Lib.hid hb2
                  clear hb2 hr2
                  go_wp2_with fail
                  go_ret
                  exact ⟨rfl, stay1 HS1.out.fr HB2.out⟩
        · have hx1' : (1 : Int) < (xs.length : Int) := by omega
          obtain ⟨m, hsub⟩ : ∃ m : Nat, (xs.length : Int) - 1 = (m : Int) := ⟨xs.length - 1, by omega⟩
          have hm1 : 1 ≤ m := by omega
          have hx16 : (xs.length : Int) ≤ 16 := by have := HX.out.2; omega
          have hm16 : (m : Int) ≤ 16 := by omega
          have hm0 : ((m : Int) == 0) = false := beq_eq_false_iff_ne.2 (by omega)
          obtain ⟨k, hk⟩ : ∃ k : Nat, gone % (m : Int) = k := ⟨(gone % (m : Int)).toNat, by have := Int.emod_nonneg gone (show (m : Int) ≠ 0 by omega); omega⟩
          have hk2 : 1 + k < xs.length := by have := Int.emod_lt_of_pos gone (show 0 < (m : Int) by omega); omega
          have hk3 : (1 : Int) + (k : Int) < (xs.length : Int) := by omega
          rcases (C_open hC3).2 with e | ⟨bo, off, rfl, hx8, hx9⟩
          · subst e; simp at hk2
          clear hx8 hx9
          have c0 := row_cell HS.out.row hk2
          have HA := remove_any b w.heap.size 1 (Lof xs) (xs.getD (1 + k) 0) wr HS.out.rg (by decide) (by rw [Lof_length]; exact HX.out.2) (fun m hm => by have := (circ_start xs).sm m hm; omega)
          rw [rem_Lof HX.out.1 (by omega) hk2] at HA
          obtain ⟨y, hy⟩ : ∃ y, xs.getD (1 + k) 0 = y := ⟨_, rfl⟩
          rw [hy] at HA c0
          have HA := Lib.hid HA
          obtain ⟨hcut1, hr1⟩ := cuttU (some ⟨bo, off, none⟩) xs.length c3 (1 + k) (by omega) hc3
          obtain ⟨A5, c5, hcut2, hr2⟩ := cutfU (some ⟨bo, off, none⟩) xs.length c3 (1 + k + 1) (by omega) hc3
          rw [show ((1 + k : Nat) : Int) = 1 + (k : Int) from by omega] at hcut1
          rw [show ((1 + k + 1 : Nat) : Int) = 1 + (k : Int) + 1 from by omega] at hcut2
          have HR1 := Lib.hid hr1
          have HR2 := Lib.hid hr2
          have hgn := hn
          clear hy hC3 hc3 hr1 hr2 hx1
          rcases hlt' with hlt | ⟨hlt, hlt2⟩
          all_goals
            go_wp2_with fail
            refine HA.out.mono ?_
            rintro e w1 ⟨rfl, hg1, hf1⟩
            have HS1 := Lib.hid (HS.out.ring hg1 hf1)
            clear hg1 hf1 HA c0 HS
            have s1 : IntKind.i64.wrap (1 + (k : Int) + 1) = 1 + (k : Int) + 1 := IntWalk.i64_in _ (by omega)
            have HW := Lib.hid HS1.out.fr.size
            go_wp2_with fail
            refine Q.wp_region_segs none [([1, 2, 3, 5, 6, 7, 8], some 0), ([], some 4), ([], some 9), ([10], none)] (by kernel_rfl) (by kernel_rfl) (by kernel_rfl) (by kernel_rfl) ?_
            dsimp only [Q.wpSegs, Q.picks, Q.pick]
            repeat (go_big_quiet_step (fail))
            refine wpQuiet_nil ?_
            clear s1 hcut1 hcut2
            go_wp2_with fail
            refine Q.ev_keep ((Below.refl _ _).alloc (Nat.le_refl _) _) (Nat.le_refl _) ?_
            refine wpQuiet_nil ?_
            obtain ⟨w2, hw2⟩ : ∃ w2, w2 = w1.drew.alloc (.cells #[] tU) := ⟨_, rfl⟩
            have HS2 := Lib.hid (show CS b (Lof (xs.take (1 + k) ++ xs.drop (1 + k + 1))) (.slice (some ⟨bo, off, none⟩) xs.length c3) xs w w2 from hw2 ▸ HS1.out.below (stay1 (stay0 w1) ((Below.refl _ _).alloc (Nat.le_refl _) _)))
            have HE := Lib.hid (show (Kd.int .u64).R tU w2 w1.heap.size (fun _ => True) (.slice (some ⟨w1.heap.size, 0, none⟩) 0 0) [] from hw2 ▸ R_empty (W := w1.drew) (Nat.le_refl _) tU rfl)
            have HZ2 := Lib.hid (show w1.heap.size ≤ w2.heap.size from by rw [hw2]; simp)
            have HB12 := Lib.hid (show Below w1.heap.size w1 w2 from hw2 ▸ stay1 (stay0 w1) ((Below.refl _ _).alloc (Nat.le_refl _) _))
            rw [show (w1.alloc (.cells #[] tU)).drew = w2 from hw2.symm]
            clear hw2
            go_wp2_with (at_builtin; refine appn (w0 := w2) .u64 w1.heap.size (.tmp 68) (.tmp 71) 39 tU 8 rfl rfl Try.underlying39 info_u64 (by decide) (.slice (some ⟨w1.heap.size, 0, none⟩) 0 0) [] (xs.take (1 + k)) (some ⟨bo, off, none⟩) (1 + k) c3 rfl rfl HE.out (HR1.out _ _ (Kd.R_reads' HS2.out.row).2.2) (Below.refl _ _) HZ2.out (by have := HX.out; simp; omega) ?_; intro v3 w3 hr3 hb3 hg3; (have HE3 := Lib.hid hr3); (have HB3 := Lib.hid hb3); (have HG3 := Lib.hid hg3); clear hr3 hb3 hg3)
            refine Q.ev_app (B' := w1.heap.size) (row' := none) (gr_low HB3.out HB3.out.size) (Nat.le_refl _) (Q.NewRow.none_ _ _) ?_
            refine wpQuiet_nil ?_
            obtain ⟨A6, c6, e6, _, hC6⟩ := Kd.R_reads HE3.out
            clear hC6
            rw [show (([] : List Int) ++ xs.take (1 + k)).length = 1 + k from by simp; omega] at e6
            subst e6
            have HS3 := Lib.hid (show CS b (Lof (xs.take (1 + k) ++ xs.drop (1 + k + 1))) (.slice (some ⟨bo, off, none⟩) xs.length c3) xs w w3 from HS1.out.below (HB12.out.trans HB3.out))
            go_wp2_with (at_builtin; refine appn (w0 := w3) .u64 w1.heap.size (.tmp 72) (.tmp 76) 39 tU 8 rfl rfl Try.underlying39 info_u64 (by decide) (.slice A6 (1 + k) c6) ([] ++ xs.take (1 + k)) (xs.drop (1 + k + 1)) A5 (xs.length - (1 + k + 1)) c5 rfl rfl HE3.out (HR2.out _ _ (Kd.R_reads' HS3.out.row).2.2) (Below.refl _ _) (Nat.le_trans HZ2.out HB3.out.size) (by have := HX.out; simp; omega) ?_; intro v4 w4 hr4 hb4 hg4; (have HE4 := Lib.hid hr4); (have HB4 := Lib.hid hb4); (have HG4 := Lib.hid hg4); clear hr4 hb4 hg4)
            refine Q.ev_app (B' := w1.heap.size) (row' := none) (gr_low HB4.out HB4.out.size) (Nat.le_refl _) (Q.NewRow.none_ _ _) ?_
            repeat (go_big_quiet_step (fail))
            refine wpQuiet_nil ?_
            refine NoPanic.normal ?_
            obtain ⟨xs2, hxs2⟩ : ∃ xs2, xs.take (1 + k) ++ xs.drop (1 + k + 1) = xs2 := ⟨_, rfl⟩
            have HS4 := Lib.hid (show CS b (Lof xs2) v4 xs2 w w4 from ⟨hxs2 ▸ (HS1.out.below ((HB12.out.trans HB3.out).trans HB4.out)).rg, hxs2 ▸ Kd.R_lower HE4.out HW.out, stay1 HS1.out.fr ((HB12.out.trans HB3.out).trans HB4.out)⟩)
            obtain ⟨A7, c7, e7, _, hC7⟩ := Kd.R_reads HS4.out.row
            clear hC7
            subst e7
            have HX2 := Lib.hid (show xs2.Nodup ∧ xs2.length ≤ 16 from hxs2 ▸ nodup_rm HX.out.1 HX.out.2)
            clear HB12 HX HS3 HE3 HE4 HB3 HG3 HB4 HG4 HR1 HR2 HS1 HS2 HE HZ2 HW hm0 hm1 hm16 hx16 hk2 hk3 hx1' hsub hlt
            have HS := HS4
            have HX := HX2
            clear HS4 HX2
            go_wp2_with fail
            have hx16 := HX.out.2
            go_loopg [11] (3 * xs2.length + 2) (fun g v11 w' => ∃ (i2 : Nat) (L : List Mem), v11 = .int .i64 i2 ∧ Hid (i2 ≤ 3 * xs2.length ∧ 3 * xs2.length < g + i2) ∧ Hid (CS b L (.slice A7 xs2.length c7) xs2 w w') ∧ Hid (CircL xs2 i2 L))
            case atStart => exact ⟨0, _, rfl, Lib.hid ⟨by omega, by omega⟩, HS, Lib.hid (circ_start xs2)⟩
            case round =>
              clear HS
              obtain ⟨i2, L, rfl, HJ, HS, HL⟩ := hrel
              cases gk with
              | zero => have := HJ.out; omega
              | succ k2 =>
                by_cases hlt : i2 < 3 * xs2.length
                · have HJ' := Lib.hid (show i2 < 3 * xs2.length ∧ 3 * xs2.length < (k2 + 1) + i2 from ⟨hlt, HJ.out.2⟩)
                  have hlen := HL.out.len
                  obtain ⟨h, r, rfl⟩ : ∃ h r, L = h :: r := by
                    cases L with
                    | nil => exact absurd hlen (by simp; omega)
                    | cons h r => exact ⟨h, r, rfl⟩
                  have hmod : i2 % xs2.length < xs2.length := Nat.mod_lt _ (by omega)
                  have HT := Lib.hid (turn_any b w.heap.size 1 (h :: r) wr HS.out.rg (by decide))
                  rw [if_neg (by simp), show headId (h :: r) = h.1 from rfl, circ_head HL.out, show decide (0 < (h :: r).length) = true from by simp] at HT
                  obtain ⟨hsp, hcl⟩ := circ_spend HL.out (by omega)
                  have HP := spend_any b w.heap.size 1 (h :: r) 65536 wr HS.out.rg (by decide) (by omega) (fun m hm => by have := HL.out.sm m hm; omega)
                  rw [hsp] at HP
                  have HP := Lib.hid HP
                  have HCL := Lib.hid hcl
                  rcases (C_open (Kd.R_reads' HS.out.row).2.2).2 with e | ⟨bo, off, rfl, _, _⟩
                  · rw [e] at hmod; simp at hmod
                  have HMOD := Lib.hid hmod
                  clear hsp hcl hlen HJ hmod
                  obtain ⟨y, hy⟩ : ∃ y, xs2.getD (i2 % xs2.length) 0 = y := ⟨_, rfl⟩
                  rw [hy] at HT
                  have HY := Lib.hid hy
                  clear hy
                  go_wp2_with fail
                  refine HT.out.mono ?_
                  rintro e _ ⟨rfl, rfl⟩
                  clear HT
                  go_wp2_with fail
                  refine HP.out.mono ?_
                  rintro e w1 ⟨rfl, hg1, hf1⟩
                  have HS1 := Lib.hid (HS.out.ring hg1 hf1)
                  clear hg1 hf1 HP HS
                  have c0 := row_cell HS1.out.row HMOD.out
                  rw [HY.out] at c0
                  have z1 : i2 % xs2.length < xs2.length := HMOD.out
                  have z2 : (0 : Int) < (xs2.length : Int) := by omega
                  go_wp2_with fail
                  go_roundg k2
                  case measure => have := HJ'.out; omega
                  case rel => exact ⟨i2 + 1, _, by go_num, Lib.hid (by have := HJ'.out; omega), HS1, HCL⟩
                · have HLL := Lib.hid (show (L.map (·.1)).length = xs2.length from by rw [List.length_map]; exact HL.out.len)
                  clear HJ
                  go_wp2_with fail
                  refine (alive_any wr).mono ?_
                  rintro e w1 ⟨rfl, hb1⟩
                  have HS1 := Lib.hid (HS.out.below hb1)
                  clear hb1 HS
                  go_wp2_with fail
                  refine (members_any b w.heap.size 1 L w1 HS1.out.rg (by decide) (by have := HLL.out; rw [List.length_map] at this; omega)).mono ?_
                  rintro e w2 ⟨v2, rfl, hr2, hb2⟩
                  obtain ⟨A6, c6, hv6, _, _⟩ := Kd.R_reads hr2
                  rw [HLL.out] at hv6
                  subst hv6
                  have HB2 := Lib.hid hb2
                  clear hb2 hr2
                  go_wp2_with fail
                  go_ret
                  exact ⟨rfl, stay1 HS1.out.fr HB2.out⟩
end Go.Proofs.Ytbcononfgpfdbaa.D
