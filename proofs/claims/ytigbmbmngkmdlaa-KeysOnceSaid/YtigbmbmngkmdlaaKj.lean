/-
  keys: the law KeysOnce, walked.
-/
import Derived.Test.YtigbmbmngkmdlaaKi
import Derived.Deep.DeepCutAuto
import Derived.Deep.CutRange
namespace Go.Proofs.Ytigbmbmngkmdlaa.Ke
open Go.RowKit Go.Proofs.Ytigbmbmngkmdlaa.L Go.Proofs.YtigbmbmngkmdlaaW.PrintWords

abbrev StD := List Int × Bool × Bool × Int
def kSt : Kd StD := Kd.pair (Kd.slice 5 (Kd.int .u8)) (Kd.pair Kd.bool (Kd.pair Kd.bool (Kd.int .u8)))
def zSt : StD := ([], false, false, 0)
theorem S_open {w : World} {A : Option Addr} {l : List StD} (h : kSt.C w A l.length l) :
    l.length ≤ 9223372036854775807 ∧ (l = [] ∨ ∃ b off, A = some ⟨b, off, none⟩ ∧ b < w.heap.size ∧ ∀ j, j < l.length → (∃ Aj cj, w.cell? ⟨b, off + j * 4, none⟩ = some (.slice Aj (l.getD j zSt).1.length cj) ∧ (l.getD j zSt).1.length ≤ cj ∧ (Kd.int .u8).C w Aj (l.getD j zSt).1.length (l.getD j zSt).1) ∧
      w.cell? ⟨b, off + j * 4 + 1, none⟩ = some (.bool (l.getD j zSt).2.1) ∧ w.cell? ⟨b, off + j * 4 + 2, none⟩ = some (.bool (l.getD j zSt).2.2.1) ∧ w.cell? ⟨b, off + j * 4 + 3, none⟩ = some (.int .u8 (l.getD j zSt).2.2.2)) := by
  refine ⟨h.2.1, ?_⟩
  rcases Nat.eq_zero_or_pos l.length with h0 | h0
  · exact .inl (List.eq_nil_of_length_eq_zero h0)
  · right
    have key : ∀ j, j < l.length → ∃ ad, A = some ad ∧ (∃ Aj cj, w.cell? (ad.add (j * 4 + 0)) = some (.slice Aj (l.getD j zSt).1.length cj) ∧ (l.getD j zSt).1.length ≤ cj ∧ (Kd.int .u8).C w Aj (l.getD j zSt).1.length (l.getD j zSt).1) ∧ w.cell? (ad.add (j * 4 + 1)) = some (.bool (l.getD j zSt).2.1) ∧ w.cell? (ad.add (j * 4 + 2)) = some (.bool (l.getD j zSt).2.2.1) ∧ w.cell? (ad.add (j * 4 + 3)) = some (.int .u8 (l.getD j zSt).2.2.2) := by
      intro j hj
      obtain ⟨ad, c, e, _, ⟨c0, c1, rfl, ⟨A1, n1, rfl, hn, hA⟩, c2, c3, rfl, h1, c4, c5, rfl, h2, h3⟩, hc⟩ := Kd.C_get h zSt j (by omega) (by omega)
      rw [show c2 = [Value.bool (l.getD (j : Int).toNat zSt).2.1] from h1, show c4 = [Value.bool (l.getD (j : Int).toNat zSt).2.2.1] from h2, show c5 = [Value.int .u8 (l.getD (j : Int).toNat zSt).2.2.2] from h3] at hc
      simp only [Int.toNat_natCast] at hc hn hA
      exact ⟨ad, e, ⟨A1, n1, hc 0 _ rfl, hn, hA⟩, hc 1 _ rfl, hc 2 _ rfl, hc 3 _ rfl⟩
    obtain ⟨ad, e, ⟨_, _, hc, _⟩, _⟩ := key 0 h0
    obtain ⟨b, off, spot⟩ := ad
    have hs : spot = none := by
      have := World.cell?_spot hc
      simpa [Addr.add] using this
    subst hs
    refine ⟨b, off, e, ?_, ?_⟩
    · have := World.block_lt_of_cell? w _ hc
      rwa [add_at] at this
    · intro j hj
      obtain ⟨ad, e', ⟨Aj, cj, hc, hr⟩, hc1, hc2, hc3⟩ := key j hj
      rw [e] at e'
      injection e' with e'
      subst e'
      rw [add_at] at hc hc1 hc2 hc3
      exact ⟨⟨Aj, cj, hc, hr⟩, hc1, hc2, hc3⟩

section
variable {w0 : World} {bs bk : Nat} {T D : List Int} {n kn tk : Nat} {G7 G8 : List En} {X : List (Nat × Array Value)} {v5 v6 v7 v8 : Value} {w w1 : World}
theorem On.s5 (h : On w0 bs bk T D n kn tk G7 G8 X v5 v6 v7 v8 w) : ∃ A c, v5 = .slice A T.length c ∧ T.length ≤ c ∧ (Kd.int .u8).C w A T.length T := Kd.R_reads h.r5
theorem On.s6 (h : On w0 bs bk T D n kn tk G7 G8 X v5 v6 v7 v8 w) (hk : tk ≤ T.length) : ∃ A c, v6 = .slice A tk c ∧ tk ≤ c ∧ (Kd.int .u8).C w A tk (T.take tk) := by
  have := Kd.R_reads h.r6
  rwa [List.length_take_of_le hk] at this
theorem On.s8 (h : On w0 bs bk T D n kn tk G7 G8 X v5 v6 v7 v8 w) : ∃ A c, v8 = .slice A G8.length c := by
  obtain ⟨A, c, e, _⟩ := Kd.R_reads h.r8
  exact ⟨A, c, by rw [e, List.length_map]⟩
theorem Apt.new {k : IntKind} {e : TypeId} {A : Option Addr} {len c : Nat} {l : List Int} {B : Nat} {v : Value} (hR : (Kd.int k).R e w1 B (fun _ => True) (.slice A len c) l) (hv : ∀ k, v.ownBlock = some k → k < B) : Apt A v := fun ad ha he => by
  subst ha
  have := Kd.R_base hR ad.block (by rfl)
  have := hv _ he.symm
  omega
theorem pend_pc {T D : List Int} {n : Nat} {A : Option Addr} {c : Nat} (hD : T.drop n = D) (h1 : n ≤ T.length) (h2 : T.length ≤ n + 512) (hc : D.length ≤ c) : Pc T (n, D, A, c) := by
  have hl : D.length = T.length - n := by rw [← hD]; exact List.length_drop
  refine ⟨by show n + D.length ≤ T.length; omega, ?_, by show D.length ≤ 512; omega, hc⟩
  show D = (T.drop n).take D.length
  rw [hD, List.take_length]
end

set_option maxHeartbeats 12800000 in
set_option maxRecDepth 100000 in
theorem once_walk (l : List StD) (A : Option Addr) (c : Nat) (w : World) (hC : kSt.C w A l.length l) (hok : ∀ o ∈ l, 0 ≤ o.2.2.2 ∧ o.2.2.2 < 256) :
    Calls Try.prog 6 #[.slice A l.length c] w fun e w' => e = .returned (.bool true) ∧ Below w.heap.size w w' := by
  have hu := Try.underlying65
  obtain ⟨hmx, ho⟩ := S_open hC
  have HO := Lib.hid ho
  have HOK := Lib.hid hok
  clear ho hC hok
  go_enter Try.func6, Try.ntmps6
  go_wp2_with fail
  refine (new_any _).mono ?_
  rintro e w1 ⟨bs, rfl, hs1, hl1, hb1⟩
  have HS := Lib.hid hs1
  have HLs := Lib.hid hl1
  have HB := Lib.hid hb1
  clear hs1 hl1 hb1
  go_wp2_with fail
  refine (sink_any _).mono ?_
  rintro e w2 ⟨bk, rfl, hk2, hl2, hb2⟩
  replace HS := Lib.hid (HS.out.below hb2)
  have HLk := Lib.hid (Nat.le_trans HB.out.size hl2)
  replace HB := Lib.hid (stay1 HB.out hb2)
  have HK := Lib.hid hk2
  clear hk2 hl2 hb2
  go_wp2_with fail
  go_loopg [5, 6, 7, 8, 9] (l.length + 1) (fun g v5 v6 v7 v8 v9 w' => ∃ (i n kn : Nat) (T : List Int) (G : List En), v9 = .int .i64 i ∧ Hid (i ≤ l.length ∧ l.length < g + i ∧ i ≤ 60) ∧ Hid (n ≤ kn ∧ kn ≤ T.length ∧ T.length ≤ n + 512 ∧ T.length ≤ 600 * i ∧ G.length ≤ i) ∧ Hid (On w bs bk T (T.drop n) n kn kn G G [] v5 v6 v7 v8 w'))
  case atStart => exact ⟨0, 0, 0, [], [], rfl, Lib.hid ⟨by omega, by omega, by omega⟩, Lib.hid ⟨by simp, by simp, by simp, by simp, by simp⟩, Lib.hid ⟨⟨none, HS.out, Apt.none_ _, Apt.none_ _⟩, HK.out, Kd.R_nil _ _ _ _ _, Kd.R_nil _ _ _ _ _, Kd.R_nil _ _ _ _ _, Kd.R_nil _ _ _ _ _, fun k hk => (by cases hk), by simp, by simp, HB.out, HLs.out, HLk.out⟩⟩
  case round =>
    clear HS HK HB HLs HLk
    obtain ⟨i, n, kn, T, G, rfl, HJ, HN, HS⟩ := hrel
    cases gk with
    | zero => have := HJ.out; omega
    | succ g =>
      obtain ⟨hj1, hj2, hj3⟩ := HJ.out
      clear HJ
      by_cases hlt : i < l.length ∧ i < 60
      · obtain ⟨hlt, h60⟩ := hlt
        rcases HO.out with e | ⟨bo, off, rfl, _, hcells⟩
        · subst e; simp at hlt
        obtain ⟨⟨Aj, cj, c0, hcj, hCj⟩, c1, c2, c3⟩ := hcells i hlt
        have hoki := HOK.out (l.getD i zSt) (by rw [List.getD_eq_getElem?_getD, List.getElem?_eq_getElem hlt]; exact List.getElem_mem hlt)
        clear hcells
        generalize l.getD i zSt = o at c0 c1 c2 c3 hcj hCj hoki
        obtain ⟨by_, sd, bb, cm0⟩ := o
        simp only at c0 c1 c2 c3 hcj hCj hoki
        obtain ⟨cm, rfl⟩ := Int.eq_ofNat_of_zero_le hoki.1
        have hcm : cm < 256 := by omega
        have k0 := pw_cell_below HS.out.be c0
        have k1 := pw_cell_below HS.out.be c1
        have k2 := pw_cell_below HS.out.be c2
        have k3 := pw_cell_below HS.out.be c3
        have HCj := Lib.hid hCj
        have HCM := Lib.hid hcm
        have HI := Lib.hid (show i < l.length ∧ i < 60 ∧ l.length < g + 1 + i from ⟨hlt, h60, hj2⟩)
        obtain ⟨y, hy⟩ : ∃ y, y = wr.alloc (.cells #[.slice Aj by_.length cj, .bool sd, .bool bb, .int .u8 cm] 65) := ⟨_, rfl⟩
        replace HS := Lib.hid (show On w bs bk T (T.drop n) n kn kn G G [(wr.heap.size, #[.slice Aj by_.length cj, .bool sd, .bool bb, .int .u8 cm])] _ _ _ _ y from by rw [hy]; exact HS.out.box _)
        clear c0 c1 c2 c3 hCj hcj hoki hj1 hj2 hj3 hcm
        have b0 := HS.out.cells.1
        rw [hy] at b0
        by_cases h6 : (600 : Int) < (by_.length : Int)
        · have t6 : decide ((600 : Int) < (by_.length : Int)) = true := by simpa using h6
          clear h6
          go_wp2_with fail
          rw [← hy]
          clear hy
          refine (alive_any _).mono ?_
          rintro e w3 ⟨rfl, hb3⟩
          have HB3 := Lib.hid (stay1 HS.out.be hb3)
          clear hb3
          go_wp2
          go_ret
          exact ⟨rfl, HB3.out⟩
        have t6 : decide ((600 : Int) < (by_.length : Int)) = false := by simpa using h6
        have HBL := Lib.hid (show by_.length ≤ 600 by omega)
        clear h6
        obtain ⟨bx, hbx⟩ : ∃ b, wr.heap.size = b := ⟨_, rfl⟩
        go_upto_region 11 with (fail)
        rw [← hy]
        rw [hbx] at HS
        clear hy b0 k0 k1 k2 k3 t6 hbx
        obtain ⟨A0, hA0, hp5, hp6⟩ := HS.out.st
        have HST := Lib.hid (show StA bs n (T.drop n) A0 y ∧ Apt A0 u5 ∧ Apt A0 u6 from ⟨hA0, hp5, hp6⟩)
        have b0 := HS.out.cells.1
        clear hA0 hp5 hp6
        go_wp2_with fail
        refine (type_ex bs n (T.drop n) by_ A0 Aj cj y HST.out.1 (by have := HN.out; rw [List.length_drop]; omega) (Kd.C_below HCj.out HS.out.be)).mono ?_
        rintro e w3 ⟨E, D', A', rfl, hE, hs3, hf3, hg3⟩
        replace HS := Lib.hid (HS.out.stream HST.out.1 HST.out.2.1 HST.out.2.2 hs3 hf3 hg3)
        have HE := Lib.hid hE
        clear hE hs3 hf3 hg3 b0 HST
        go_upto_if 45 with (fail)
        go_cut [5] (fun v5 wx => ∃ T2 : List Int, Hid (n ≤ kn ∧ kn ≤ T2.length ∧ T2.length ≤ n + 512 ∧ T2.length ≤ 600 * (i + 1) ∧ G.length ≤ i) ∧ Hid (On w bs bk T2 (T2.drop n) n kn kn G G [(bx, #[.slice Aj by_.length cj, .bool sd, .bool bb, .int .u8 cm])] v5 u6 u7 u8 wx))
        case first =>
          rcases HE.out with ⟨rfl, rfl, hl5⟩ | ⟨rfl, rfl⟩
          · have HAP := Lib.hid (drop_app (B := by_) (show n ≤ T.length by have := HN.out; omega))
            have HL5 := Lib.hid hl5
            have b0 := HS.out.cells.1
            clear hl5
            go_wp2_with (at_builtin; refine appn2 (w0 := w) .u8 w.heap.size (.tmp 46) (.tmp 48) 25 5 1 rfl rfl Try.underlying25 info_u8 (by decide) u5 T by_ Aj by_.length cj rfl rfl HS.out.r5 (Kd.C_below HCj.out HS.out.be) HS.out.be HS.out.be.size (by have := HN.out; have := HI.out; have := HBL.out; omega) ?_; intro v3 w4 ho4 hb4 hg4 hat4; (have HS4 := Lib.hid (HS.out.typed (by have := HN.out; omega) ho4 hg4 hat4)); clear ho4 hb4 hg4 hat4)
            go_meet
            exact ⟨T ++ by_, Lib.hid (by have := HN.out; have := HBL.out; have := HL5.out; have hl : (T ++ by_).length = T.length + by_.length := List.length_append; rw [HAP.out, List.length_drop] at this; omega), by rw [← HAP.out]; exact HS4⟩
          · go_wp2_with fail
            go_meet
            exact ⟨T, Lib.hid (by have := HN.out; omega), HS⟩
        case rest =>
          clear HS HE HN
          obtain ⟨T2, HN, HS⟩ := hcut
          have b1 := HS.out.cells.2.1
          go_upto_if 51 with (fail)
          clear b1
          go_cut [7, 8] (fun v7 v8 wx => ∃ G2 : List En, Hid (G2.length ≤ i + 1) ∧ Hid (On w bs bk T2 (T2.drop n) n kn kn G2 G2 [(bx, #[.slice Aj by_.length cj, .bool sd, .bool bb, .int .u8 cm])] u5 u6 v7 v8 wx))
          case first =>
            cases sd with
            | false =>
              go_wp2_with fail
              go_meet
              exact ⟨G, Lib.hid (by have := HN.out; omega), HS⟩
            | true =>
              obtain ⟨D, hD⟩ : ∃ D, T2.drop n = D := ⟨_, rfl⟩
              have hl : D.length = T2.length - n := by rw [← hD]; exact List.length_drop
              have HD := Lib.hid hD
              have HDL := Lib.hid hl
              rw [hD] at HS
              clear hD hl
              go_wp2_with fail
              refine (pending_any bs n D _ (elim_st HS.out.st) (by have := HN.out; have := HDL.out; omega)).mono ?_
              rintro e w5 ⟨v0, rfl, hr, hb5⟩
              obtain ⟨Ap, cp, rfl, hkp, hCp⟩ := Kd.R_reads hr
              have HEN := Lib.hid (show CT w5 Ap D ∧ Apt Ap u5 ∧ Apt Ap u6 ∧ Pc T2 (n, D, Ap, cp) from ⟨CT.mk hCp (Ty_R hr), Apt.new hr (Kd.R_lt HS.out.r5), Apt.new hr (Kd.R_lt HS.out.r6), pend_pc HD.out (by have := HN.out; omega) (by have := HN.out; omega) hkp⟩)
              replace HS := Lib.hid (HS.out.below hb5)
              clear hr hkp hCp hb5
              go_wp2_with (first
                | (at_builtin; refine app1 (w0 := w) .u64 w.heap.size (.tmp 57) (.tmp 59) 62 22 8 rfl rfl Try.underlying62 info_u64 (by decide) u7 (G.map (fun e => (e.1 : Int))) (n : Int) rfl rfl HS.out.r7 HS.out.be HS.out.be.size (by rw [List.length_map]; have := HN.out; have := HI.out; omega) ?_; intro v3 w6 ho6 hb6 hg6; (have HS6 := Lib.hid (HS.out.base (e := (n, D, Ap, cp)) ho6 hg6)); (have HE6 := Lib.hid (HEN.out.1.row hg6 (ty_ne HS.out.r7 HEN.out.1.T (by decide)))); clear ho6 hb6 hg6)
                | (at_builtin; refine Kd.R_append kS w.heap.size rfl (.tmp 61) (.tmp 63) 63 25 (.slice none 0 0) 24 rfl Try.underlying63 info_sl rfl (by decide) (by decide) u8 (G.map (fun e => (e.2.2.1, e.2.1.length, e.2.2.2))) (Ap, D.length, cp) [.slice Ap D.length cp] (fun _ => True) (fun _ => False) rfl rfl rfl (fun _ h => h.elim) (fun _ _ => trivial) HS6.out.r8 HS6.out.be HS6.out.be.size (by rw [List.length_map]; have := HN.out; have := HI.out; omega) ?_; intro v4 w7 ho7 hb7 hg7 _; (have HS7 := Lib.hid (HS6.out.piece (e := (n, D, Ap, cp)) HE6.out HEN.out.2.1 HEN.out.2.2.1 HEN.out.2.2.2 ho7 hg7)); clear ho7 hb7 hg7))
              go_meet
              exact ⟨G ++ [(n, D, Ap, cp)], Lib.hid (by rw [List.length_append]; have := HN.out; simp; omega), by rw [HD.out]; exact HS7⟩
          case rest =>
            clear HS
            obtain ⟨G2, HG2, HS⟩ := hcut
            obtain ⟨A8, c8, rfl⟩ := HS.out.s8
            go_upto_if 67 with (fail)
            go_cut [6] (fun v6 wx => ∃ k2 : Nat, Hid (n ≤ k2 ∧ k2 ≤ T2.length) ∧ Hid (On w bs bk T2 (T2.drop n) n k2 k2 G2 G2 [(bx, #[.slice Aj by_.length cj, .bool sd, .bool bb, .int .u8 cm])] u5 v6 u7 (.slice A8 G2.length c8) wx))
            case first =>
              by_cases hG : G2.length = 0
              · have t8 : decide ((0 : Int) < (G2.length : Int)) = false := decide_eq_false (by omega)
                obtain rfl : G2 = [] := List.eq_nil_of_length_eq_zero hG
                clear hG t8
                go_wp2_with fail
                go_meet
                exact ⟨kn, Lib.hid (by have := HN.out; omega), HS⟩
              · have t8 : decide ((0 : Int) < (G2.length : Int)) = true := decide_eq_true (by omega)
                have t9 : decide (0 < G2.length) = true := decide_eq_true (by omega)
                have HGG := Lib.hid (show 0 < G2.length by omega)
                have b3 := HS.out.cells.2.2.2
                have z1 : (G2.length : Int) ≠ 0 := by omega
                have hm : (wrap64 (cm : Int)).tmod (G2.length : Int) = ((cm % G2.length : Nat) : Int) := by
                  rw [show wrap64 (cm : Int) = (cm : Int) from by have := HCM.out; unfold wrap64; omega, Int.tmod_eq_emod_of_nonneg (by omega)]
                  simp
                have HM := Lib.hid hm
                clear hG hm
                go_upto_region 18 with (fail)
                clear b3 z1 t8 t9
                rw [HM.out]
                clear HM
                have hci := Nat.mod_lt cm HGG.out
                generalize cm % G2.length = ci at hci ⊢
                obtain ⟨b7, c7, b8, c8', e7, e8, q7, q8⟩ := HS.out.at_ ci hci hci
                injection e8 with e8 _ e8'
                subst e7 e8 e8'
                have hmem : G2[ci] ∈ G2 := List.getElem_mem hci
                generalize G2[ci] = en at q7 q8 hmem
                have HEN := Lib.hid (HS.out.en en hmem)
                obtain ⟨f, d, Ae, ce⟩ := en
                simp only at q7 q8
                have n7 : some b7 ≠ some bk := fun e => Kd.R_ne HS.out.r7 (show wc.heap[bk]? = _ from HS.out.sk) (by decide) e.symm
                have n8 : some b8 ≠ some bk := fun e => Kd.R_ne HS.out.r8 (show wc.heap[bk]? = _ from HS.out.sk) (by decide) e.symm
                have m7 := World.block_lt_of_cell? wc _ q7
                have m8 := World.block_lt_of_cell? wc _ q8
                have HCI := Lib.hid hci
                clear hmem
                refine Q.wp_region_segs (some bk) [([0, 1, 2, 3, 4, 5, 6, 7, 8], some 9), ([10, 11, 12, 13, 14], none)] (by kernel_rfl) (by kernel_rfl) (by kernel_rfl) (by kernel_rfl) ?_
                dsimp only [Q.wpSegs, Q.picks, Q.pick]
                replace HS := Lib.hid (HS.out.below (stay0 _))
                replace HEN := Lib.hid (show CT wc.drew Ae d ∧ Pc T2 (f, d, Ae, ce) from ⟨HEN.out.1.below (stay0 _), HEN.out.2.2.2⟩)
                have g7 : ∀ m : Q.GW wc.drew wc.heap.size (some bk), m.w.cell? ⟨b7, ci, none⟩ = some (.int .u64 f) := fun m => gw_cell m (pw_cell_below (stay0 _) q7) m7 n7
                have g8 : ∀ m : Q.GW wc.drew wc.heap.size (some bk), m.w.cell? ⟨b8, ci, none⟩ = some (.slice Ae d.length ce) := fun m => gw_cell m (pw_cell_below (stay0 _) q8) m8 n8
                clear q7 q8 m7 m8 n7 n8
                repeat (go_big_quiet_step (fail))
                refine wpQuiet_nil ?_
                clear g7 g8
                go_wp2_with (go_at_call 31; refine (take_ex bk kn T2 (f, d, Ae, ce) _ HEN.out.2 HS.out.sk HEN.out.1.C (by have := HN.out; omega) (by have := HN.out; have := HI.out; omega)).mono ?_; rintro e w9 ⟨v0, L, E0, rfl, hE0, hTL, hLT, hr9, hs9, hg9⟩; obtain ⟨At, ct, rfl, _, hCt⟩ := Kd.R_reads hr9; (have HE0 := Lib.hid hE0); (have HTL := Lib.hid hTL); (have HLT := Lib.hid hLT); (have HS9 := Lib.hid (HS.out.sink hs9 hg9)); (have HG9 := Lib.hid hg9); (have HCt := Lib.hid hCt); clear hr9 hs9 hg9 hCt hTL hLT hE0)
                refine Q.ev_app (Q.Gr.of_grown HG9.out (Nat.le_refl _)) (Nat.le_refl _) (Q.NewRow.self _ _) ?_
                repeat (go_big_quiet_step (fail))
                refine wpQuiet_nil ?_
                refine NoPanic.normal ?_
                clear HS HG9 HEN
                rcases HE0.out with rfl | rfl
                all_goals
                  clear HE0
                  go_wp2_with (at_builtin; refine appn2 (w0 := w) .u8 w.heap.size (.tmp 93) (.tmp 94) 25 5 1 rfl rfl Try.underlying25 info_u8 (by decide) u6 (T2.take kn) L At L.length ct rfl rfl HS9.out.r6 HCt.out HS9.out.be HS9.out.be.size (by rw [List.length_take]; have := HN.out; have := HI.out; have := HLT.out; omega) ?_; intro v3 w4 ho4 hb4 hg4 hat4; (have HS4 := Lib.hid (HS9.out.took (tk' := kn + L.length) (by rw [← HTL.out]; exact ho4) hg4 hat4)); clear ho4 hb4 hg4 hat4)
                  go_meet
                  exact ⟨kn + L.length, Lib.hid (by have := HN.out; have := HLT.out; omega), HS4⟩
            case rest =>
              clear HS
              obtain ⟨k2, HK2, HS⟩ := hcut
              go_upto_region 22 with (fail)
              go_cut [104] (fun v wx => v = .bool false ∧ ∃ n2 : Nat, Hid (n2 ≤ k2 ∧ T2.length ≤ n2 + 512) ∧ Hid (On w bs bk T2 (T2.drop n2) n2 k2 k2 G2 G2 [(bx, #[.slice Aj by_.length cj, .bool sd, .bool bb, .int .u8 cm])] u5 u6 u7 (.slice A8 G2.length c8) wx))
              case first =>
                cases bb with
                | false =>
                  have b2 := HS.out.cells.2.2.1
                  go_wp2_with fail
                  go_meet
                  exact ⟨rfl, n, Lib.hid (by have := HN.out; have := HK2.out; omega), HS⟩
                | true =>
                  have b2 := HS.out.cells.2.2.1
                  go_wp2_with fail
                  refine (scount_any bk k2 _ HS.out.sk).mono ?_
                  rintro e wx ⟨rfl, rfl⟩
                  obtain ⟨A0, hA0, hp5, hp6⟩ := HS.out.st
                  have HST := Lib.hid (show StA bs n (T2.drop n) A0 _ ∧ Apt A0 u5 ∧ Apt A0 u6 from ⟨hA0, hp5, hp6⟩)
                  clear hA0 hp5 hp6
                  go_wp2_with fail
                  refine (ack_okA bs n k2 (T2.drop n) A0 _ HST.out.1 (by omega) (by have := HN.out; have := HI.out; rw [List.length_drop]; omega) (by have := HK2.out; omega) (by have := HK2.out; rw [List.length_drop]; omega) (by have := HN.out; rw [List.length_drop]; omega)).mono ?_
                  rintro e w3 ⟨rfl, ⟨A2, hs3, hf3⟩, hg3⟩
                  have HDD := Lib.hid (show (T2.drop n).drop ((k2 : Int) - (n : Int)).toNat = T2.drop k2 from by rw [List.drop_drop]; congr 1; have := HK2.out; omega)
                  rw [HDD.out] at hs3
                  replace HS := Lib.hid (HS.out.stream HST.out.1 HST.out.2.1 HST.out.2.2 hs3 hf3 hg3)
                  clear hs3 hf3 hg3 HST HDD
                  go_wp2_with fail
                  go_meet
                  exact ⟨rfl, k2, Lib.hid (by have := HN.out; have := HK2.out; omega), HS⟩
              case rest =>
                clear HS
                obtain ⟨rfl, n2, HN2, HS⟩ := hcut
                replace HS := Lib.hid HS.out.unbox
                go_upto_region 24 with (fail)
                obtain ⟨A5, c5, rfl, hk5, hC5⟩ := HS.out.s5
                obtain ⟨A6, c6, rfl, hk6, hC6⟩ := HS.out.s6 HK2.out.2
                obtain ⟨i0, hi0, hz0⟩ := info_of info_u8
                have hcut := cut_to (P := Try.prog) 25 5 Try.underlying25 hi0 A5 T2.length c5 k2 (by have := HK2.out; omega)
                have HC5 := Lib.hid (C_to hC5 HK2.out.2)
                have HC6 := Lib.hid hC6
                have t1 : decide ((T2.length : Int) < (k2 : Int)) = false := decide_eq_false (by have := HK2.out; omega)
                have t2 : decide (T2.length < k2) = false := decide_eq_false (by have := HK2.out; omega)
                have s1 : IntKind.u64.wrap (k2 : Int) = k2 := wraps_u64 _ (by omega) (by have := HK2.out; have := HN.out; have := HI.out; omega)
                clear hk5 hk6 hC5 hC6 hi0 hz0
                refine Q.wp_region_segs none [([0, 1, 2, 3, 4, 5, 6, 7, 8, 9, 10, 11, 12, 13, 14, 15, 16, 18, 19, 20], some 17), ([21, 22], none)] (by kernel_rfl) (by kernel_rfl) (by kernel_rfl) (by kernel_rfl) ?_
                dsimp only [Q.wpSegs, Q.picks, Q.pick]
                replace HS := Lib.hid (HS.out.below (stay0 _))
                replace HC5 := Lib.hid (Kd.C_below HC5.out (stay0 _))
                replace HC6 := Lib.hid (Kd.C_below HC6.out (stay0 _))
                have q1 : ∀ m : Q.GW wc.drew wc.heap.size none, (convert 25 9 (.slice A5 k2 c5)).run Try.prog m.w = .ok (.string (strOfNums (T2.take k2))) m.w := fun m => Kd.C_string Try.underlying25 Try.underlying5 Try.underlying9 (Kd.C_below HC5.out m.below)
                have q2 : ∀ m : Q.GW wc.drew wc.heap.size none, (convert 25 9 (.slice A6 k2 c6)).run Try.prog m.w = .ok (.string (strOfNums (T2.take k2))) m.w := fun m => Kd.C_string Try.underlying25 Try.underlying5 Try.underlying9 (Kd.C_below HC6.out m.below)
                repeat (go_big_quiet_step (fail))
                refine wpQuiet_nil ?_
                clear q1 q2 t1 t2 hcut HC5 HC6
                go_wp2_with (go_at_call 33; refine (scount_any bk k2 _ HS.out.sk).mono ?_; rintro e wx ⟨rfl, rfl⟩)
                refine Q.ev_done (Below.refl _ _) (Nat.le_refl _) ?_
                repeat (go_big_quiet_step (fail))
                refine wpQuiet_nil ?_
                refine NoPanic.normal ?_
                clear s1
                go_wp2
                go_roundg g
                case measure => omega
                case rel => exact ⟨i + 1, n2, k2, T2, G2, by go_num, Lib.hid (by have := HI.out; omega), Lib.hid (by have := HN.out; have := HG2.out; have := HN2.out; have := HK2.out; omega), HS⟩
      · clear HO HOK
        have hex : ¬ i < l.length ∨ (i < l.length ∧ ¬ i < 60) := by omega
        clear hlt
        rcases hex with hx | ⟨hx, hx2⟩
        all_goals
          obtain ⟨D, hD⟩ : ∃ D, T.drop n = D := ⟨_, rfl⟩
          have hl : D.length = T.length - n := by rw [← hD]; exact List.length_drop
          have hlast := last_take (T := T) (n := n) (kn := kn) (by have := HN.out; omega) (by have := HN.out; omega) (by have := HN.out; omega)
          rw [hD] at hlast
          have HLA := Lib.hid hlast
          have HDL := Lib.hid hl
          rw [hD] at HS
          have HNJ := Lib.hid (show T.length ≤ 36000 from by have := HN.out; omega)
          clear hD hl hlast
          go_wp2_with fail
          refine (pending_any bs n D _ (elim_st HS.out.st) (by have := HN.out; have := HDL.out; omega)).mono ?_
          rintro e w5 ⟨v0, rfl, hr, hb5⟩
          obtain ⟨Ap, cp, rfl, hkp, hCp⟩ := Kd.R_reads hr
          have HEN := Lib.hid hCp
          have HKP := Lib.hid hkp
          replace HS := Lib.hid (HS.out.below hb5)
          clear hr hkp hCp hb5
          go_wp2_with fail
          refine (stake_ex bk kn n D (T.drop kn) 0 (T.length : Int) Ap cp _ HLA.out HS.out.sk HEN.out HKP.out (by omega) (by have := HN.out; have := HNJ.out; omega) (by omega)).mono ?_
          rintro e w6 ⟨v1, rfl, hr6, hs6, hg6⟩
          obtain ⟨Ax, cx, rfl, hkx, hCx⟩ := Kd.R_reads hr6
          have HX := Lib.hid (show (Kd.int .u8).C w6 Ax (T.length - kn) (T.drop kn) from by rw [List.length_drop] at hCx; exact hCx)
          replace HS := Lib.hid (HS.out.sink (kn' := T.length) hs6 hg6)
          clear hr6 hs6 hg6 hkx hCx HLA HEN HKP HDL
          go_wp2_with fail
          obtain ⟨A5, c5, rfl, hk5, hC5⟩ := HS.out.s5
          have HT5 := Lib.hid (CT.mk hC5 (Ty_R HS.out.r5))
          have HP5 := Lib.hid (show ∀ ad, A5 = some ad → some ad.block ≠ u6.ownBlock from fun ad ha => HS.out.ap ad.block (by subst ha; rfl))
          clear hk5 hC5
          refine Q.wp_region_segs u6.ownBlock [([], some 0), ([1, 2, 3, 4, 5, 6, 7, 10, 11], some 8), ([9, 12, 13, 14], none)] (by kernel_rfl) (by kernel_rfl) (by kernel_rfl) (by kernel_rfl) ?_
          dsimp only [Q.wpSegs, Q.picks, Q.pick]
          replace HS := Lib.hid (HS.out.below (stay0 _))
          replace HX := Lib.hid (Kd.C_below HX.out (stay0 _))
          replace HT5 := Lib.hid (HT5.out.below (stay0 _))
          refine wpQuiet_nil ?_
          go_wp2_with (go_at_call 23; refine (alive_any _).mono ?_; rintro e w7 ⟨rfl, hb7⟩; (have Hb7 := Lib.hid hb7); clear hb7)
          refine Q.ev_done Hb7.out (Nat.le_refl _) ?_
          replace HS := Lib.hid (HS.out.below Hb7.out)
          replace HX := Lib.hid (Kd.C_below HX.out Hb7.out)
          replace HT5 := Lib.hid (HT5.out.below Hb7.out)
          clear Hb7
          have q1 : ∀ m : Q.GW w7 w7.heap.size u6.ownBlock, (convert 25 9 (.slice A5 T.length c5)).run Try.prog m.w = .ok (.string (strOfNums T)) m.w := fun m => Kd.C_string Try.underlying25 Try.underlying5 Try.underlying9 (C_move HT5.out.C (fun ad ha => m.h.block _ (HT5.out.T.lt ha) (HP5.out ad ha)))
          repeat (go_big_quiet_step (fail))
          refine wpQuiet_nil ?_
          clear q1
          go_wp2_with (at_builtin; refine appg (w0 := w) .u8 w.heap.size (.tmp 146) (.tmp 147) 25 5 1 rfl rfl Try.underlying25 info_u8 (by decide) u6 (T.take kn) (T.drop kn) Ax (T.length - kn) cx rfl rfl HS.out.r6 HX.out HS.out.be HS.out.be.size (by rw [List.length_take]; have := HN.out; have := HNJ.out; omega) ?_; intro v8 w8 ho8 hb8 hg8; (have HO8 := Lib.hid (show (Kd.int .u8).R 5 w8 w.heap.size (fun _ => True) v8 T from by rw [List.take_append_drop] at ho8; exact ho8)); (have HB8 := Lib.hid hb8); (have HG8 := Lib.hid hg8); clear ho8 hb8 hg8)
          refine Q.ev_app (row' := none) (Q.Gr.of_grown HG8.out (Nat.le_refl _)) HG8.out.size (Q.NewRow.none_ _ _) ?_
          obtain ⟨A9, c9, rfl, _, hC9⟩ := Kd.R_reads HO8.out
          have HC9 := Lib.hid hC9
          clear hC9
          have q2 : ∀ m : Q.GW w8 w8.heap.size none, (convert 25 9 (.slice A9 T.length c9)).run Try.prog m.w = .ok (.string (strOfNums T)) m.w := fun m => Kd.C_string Try.underlying25 Try.underlying5 Try.underlying9 (Kd.C_below HC9.out m.below)
          repeat (go_big_quiet_step (fail))
          refine wpQuiet_nil ?_
          refine NoPanic.normal ?_
          clear q2
          go_wp2
          go_ret
          exact ⟨rfl, HB8.out⟩
end Go.Proofs.Ytigbmbmngkmdlaa.Ke
