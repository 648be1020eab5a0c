/-
  aes: Turn.
-/
import Derived.Test.YtblnclooobggnaaAh
namespace Go.Proofs.Ytblnclooobggnaa.A
open Go.RowKit Go.Proofs.Ytblnclooobggnaa.L Go.Proofs.Ytblnclooobggnaa.N Go.Proofs.YtblnclooobggnaaW.PrintWords

abbrev tB : TypeId := 26
abbrev tS : TypeId := 94
def z16 : List Nat := List.replicate 16 0
theorem info_B : (Try.prog.info? tB).map (·.size) = some 16 := by kernel_rfl
theorem info_S : (Try.prog.info? tS).map (·.size) = some 16 := by kernel_rfl
theorem wk_cell {b : Nat} {dn st tn : Int} {made : Bool} {key : List Nat} {w : World} (h : CB b dn st made (MF key) tn w) (hk : key.length = 16) {i j : Nat} (hi : i < 176) (e : 532 + i = j) : w.cell? ⟨b, j, none⟩ = some (.int .u8 ((WK key).getD i 0 : Nat)) :=
  wrd_cell h hk hi e rfl
structure TS (b : Nat) (tn : Int) (key x : List Nat) (n0 : Nat) (w ww : World) : Prop where
  c : CB b 1 0 true (MF key) tn ww
  x : AB .u8 tB n0 x ww
  o : AB .u8 tB (n0 + 1) z16 ww
  g : w.grownBy ww (some b)
  lt : b < n0
  sz : w.heap.size = n0
theorem TS.step {b : Nat} {tn : Int} {key x : List Nat} {n0 : Nat} {w ww w' : World} (h : TS b tn key x n0 w ww) {g : Nat} (hg : ww.grownBy w' (some g)) (hn : n0 + 2 ≤ g) : TS b tn key x n0 w w' :=
  ⟨h.c.grown hg (by have := h.lt; omega), h.x.grown hg (fun e => by injection e; omega), h.o.grown hg (fun e => by injection e; omega), grown_up h.g hg (by have := h.sz; omega), h.lt, h.sz⟩
theorem TS.below {b : Nat} {tn : Int} {key x : List Nat} {n0 : Nat} {w ww w' : World} (h : TS b tn key x n0 w ww) (hb : Below ww.heap.size ww w') : TS b tn key x n0 w w' :=
  ⟨h.c.below hb, h.x.below h.x.lt hb, h.o.below h.o.lt hb, h.g.trans (grown_below hb (some b)), h.lt, h.sz⟩
theorem TS.drew {b : Nat} {tn : Int} {key x : List Nat} {n0 : Nat} {w ww : World} (h : TS b tn key x n0 w ww) : TS b tn key x n0 w ww.drew := ⟨h.c.drew, h.x.drew, h.o.drew, h.g.trans (gdrew ww _), h.lt, h.sz⟩
theorem min4b {i : Nat} (h : i < 4) : Nat.min 4 (16 - 4 * i) = 4 := by
  rcases (show i = 0 ∨ i = 1 ∨ i = 2 ∨ i = 3 from by omega) with h | h | h | h <;> subst h <;> rfl
theorem out_cut (g i : Nat) (hi : i < 4) (W : World) : (Instr.sliceAt tB (.pointer (some ⟨g, 0, none⟩)) (some (.int .i64 (4 * (i : Int)))) none none).run Try.prog W = .ok (.slice (some ⟨g, 4 * i, none⟩) (16 - 4 * i) (16 - 4 * i)) W := by
  rcases (show i = 0 ∨ i = 1 ∨ i = 2 ∨ i = 3 from by omega) with h | h | h | h <;> subst h <;> kernel_rfl
theorem AB.rangeM {t : TypeId} {b o : Nat} {l cs : List Nat} {w : World} (h : AB .u8 t b l w) (hc : ∀ j, j < cs.length → l.getD (o + j) 0 = cs.getD j 0) (ho : o + cs.length ≤ l.length) : w.rangeAt b o (bys cs) := fun j v hj => by
  have hjl : j < cs.length := by
    have := (List.getElem?_eq_some_iff.1 hj).1
    rwa [bys_len] at this
  rw [bys_get hjl] at hj
  rw [h.cell (by omega), ← hj, hc j hjl]
theorem AB.thereM {t : TypeId} {b o n : Nat} {l : List Nat} {w : World} (h : AB .u8 t b l w) (ho : o + n ≤ l.length) : w.there b o n := fun j hj => ⟨by rw [h.cell (by omega)]; rfl, h.fz _⟩
theorem AB.setM {t : TypeId} {b o : Nat} {l cs : List Nat} {w : World} (h : AB .u8 t b l w) (ho : o + cs.length ≤ l.length) : AB .u8 t b (splice l o cs) (w.setCells b o (bys cs)) := by
  have h' : w.heap[b]? = some (.cells (bys l).toArray t (0, 0)) := h
  have := setCells_blk b t (bys cs) o (bys l) w h' (by rw [bys_len, bys_len]; exact ho)
  refine this.trans ?_
  congr 2
  unfold splice arr bys
  simp [List.map_take, List.map_drop]
set_option maxRecDepth 100000 in
set_option maxHeartbeats 12800000 in
theorem turn_any (b : Nat) (tn : Int) (key x : List Nat) (w : World) (h : CU b key tn w) (htn : 0 ≤ tn ∧ tn < 4611686018427387904) (hk : key.length = 16) (hk8 : ∀ x ∈ key, x < 256) (hx : x.length = 16) (hx8 : ∀ y ∈ x, y < 256) :
    Calls Try.prog 17 #[.pointer (some ⟨b, 0, none⟩), .agg (arr .u8 x)] w fun e w' => e = .returned (.tuple #[.agg (arr .u8 (turnP key x)), .int .i64 0]) ∧ CB b 1 0 true (MF key) (tn + 1) w' ∧ w.grownBy w' (some b) := by
  have HBl := Lib.hid h.lt
  have HU := Lib.hid h
  have HTn := Lib.hid htn
  have HK := Lib.hid hk
  have HK8 := Lib.hid hk8
  have HX := Lib.hid hx
  have HX8 := Lib.hid hx8
  clear h htn hk hk8 hx hx8
  go_enter Try.func17, Try.ntmps17
  go_upto_region 1 with (fail)
  refine wp_at fun W hW => ?_
  obtain ⟨h2, h4, hb, hsz⟩ := two_ab (k := .u8) (k' := .u8) x z16 hW
  have HT3 := Lib.hid h2
  have HT4 := Lib.hid h4
  have HB := Lib.hid hb
  have HZ := Lib.hid hsz
  have HU1 := Lib.hid (HU.out.below hb)
  have HR := Lib.hid (ready_any b tn key W HU1.out HK.out HK8.out)
  clear hW h2 h4 hb hsz HU
  generalize hn : w.heap.size = n0 at *
  have Hn := Lib.hid hn
  clear hn
  go_upto_region 3 with (go_at_call 37; refine HR.out.mono ?_; rintro e w1 ⟨rfl, hs1, hg1⟩; (have HC1 := Lib.hid hs1); (have HG1 := Lib.hid hg1); clear hs1 hg1 HR)
  have HX3 := Lib.hid (HT3.out.grown HG1.out (fun e => by injection e with e; have := HBl.out; omega))
  have HO3 := Lib.hid (HT4.out.grown HG1.out (fun e => by injection e with e; have := HBl.out; omega))
  go_upto_region 4 with (go_at_call 38; refine (add_any b 1 0 tn true (MF key) w1 HC1.out HTn.out).mono ?_; rintro e w2 ⟨rfl, hw2⟩; (have HW2 := Lib.hid hw2); clear hw2)
  have HTS := Lib.hid (show TS b (tn + 1) key x n0 w w2 from by
    rw [HW2.out]
    exact ⟨HC1.out.stt _, HX3.out.other (by have := HBl.out; omega), HO3.out.other (by have := HBl.out; omega), ((grown_below (by rw [Hn.out]; exact HB.out) (some b)).trans HG1.out).trans (gset _ _ _ _), HBl.out, Hn.out⟩)
  have HN2 := Lib.hid (show n0 + 2 ≤ w2.heap.size from HTS.out.o.lt)
  clear HW2 HC1 HG1 HX3 HO3 HT3 HT4 HB HZ HU1 HTn HBl Hn
  go_upto_region 5 with (fail)
  refine wp_at fun W3 hW3 => ?_
  have hb3 : Below w2.heap.size w2 W3 := by rw [hW3]; exact (Below.refl _ _).alloc (Nat.le_refl _) _
  have HT5 := Lib.hid (HTS.out.below hb3)
  have HS5 := Lib.hid (show AB .u8 tS w2.heap.size z16 W3 from by rw [hW3]; exact AB.mk w2 .u8 _ z16)
  clear hW3 hb3 HTS
  generalize w2.heap.size = n2 at *
  go_wp2_with fail
  go_loopg [24] 6 (fun g v24 w' => ∃ i : Nat, v24 = .int .i64 (i : Int) ∧ Hid (i ≤ 4 ∧ 4 < g + i) ∧ Hid (TS b (tn + 1) key x n0 w w') ∧ Hid (AB .u8 tS n2 (fl (addK key x) (4 * i)) w'))
  case atStart => exact ⟨0, rfl, Lib.hid ⟨by omega, by omega⟩, HT5, HS5⟩
  case round =>
    obtain ⟨i, rfl, HJ, HT, HS⟩ := hrel
    clear HT5 HS5
    cases gk with
    | zero => have := HJ.out; omega
    | succ g1 =>
      by_cases hi : i < 4
      · have HJ' := Lib.hid (show i < 4 ∧ 4 < (g1 + 1) + i from ⟨hi, HJ.out.2⟩)
        have z0 : (i : Int) < 4 := by omega
        have z1 : (0 : Int) ≤ (i : Int) := by omega
        clear hi HJ
        go_wp2_with fail
        go_loopg [27] 6 (fun g v27 w' => ∃ k : Nat, v27 = .int .i64 (k : Int) ∧ Hid (k ≤ 4 ∧ 4 < g + k) ∧ Hid (TS b (tn + 1) key x n0 w w') ∧ Hid (AB .u8 tS n2 (fl (addK key x) (4 * i + k)) w'))
        case atStart => exact ⟨0, rfl, Lib.hid ⟨by omega, by omega⟩, HT, HS⟩
        case round =>
          obtain ⟨k, rfl, HI, HTk, HSk⟩ := hrel
          clear HT HS
          cases gk with
          | zero => have := HI.out; omega
          | succ g2 =>
            by_cases hk : k < 4
            · have HI' := Lib.hid (show k < 4 ∧ 4 < (g2 + 1) + k from ⟨hk, HI.out.2⟩)
              have z2 : (k : Int) < 4 := by omega
              have z3 : (0 : Int) ≤ (k : Int) := by omega
              have z4 : 4 * (i : Int) + (k : Int) < 16 := by omega
              have z5 : (0 : Int) ≤ 4 * (i : Int) + (k : Int) := by omega
              have z6 : (4 * (i : Int) + (k : Int)).toNat = 4 * i + k := by omega
              obtain ⟨xa, hxa⟩ : ∃ y, x.getD (4 * i + k) 0 = y := ⟨_, rfl⟩
              obtain ⟨xb, hxb⟩ : ∃ y, (WK key).getD (4 * i + k) 0 = y := ⟨_, rfl⟩
              have c1 := gw HTk.out.x.lt (show wr.cell? ⟨n0, 4 * i + k, none⟩ = some (.int .u8 (xa : Nat)) from by rw [← hxa]; exact HTk.out.x.cell (by rw [HX.out]; omega))
              have c2 := gw HTk.out.c.lt (show wr.cell? ⟨b, 532 + i * 4 + k, none⟩ = some (.int .u8 (xb : Nat)) from by rw [← hxb]; exact wk_cell HTk.out.c HK.out (by omega) (by omega))
              have x1 := xor_u8 xa xb (by rw [← hxa]; exact getD_lt0 (by decide) _ HX8.out) (by rw [← hxb]; exact getD_lt0 (by decide) _ (WK_lt HK8.out))
              have HV := Lib.hid (show (addK key x).getD (4 * i + k) 0 = xa ^^^ xb from by rw [addK_get key x HJ'.out.1 hk, hxa, hxb])
              clear hxa hxb hk HI
              go_wp2_with fail
              refine Q.wp_region_segsF none [] [0, 1, 2, 3, 4, 5, 6, 7, 8, 9, 10, 11, 12, 13, 14, 15, 16, 17, 18] 19 (by kernel_rfl) (by kernel_rfl) (by kernel_rfl) (by kernel_rfl) ?_
              dsimp only [Q.wpSegsF, Q.picks, Q.pick]
              repeat (go_big_quiet_step (fail))
              refine wpQuiet_nil ?_
              clear c1 c2 x1 z4 z5 z6
              have hl16 : (fl (addK key x) (4 * i + k)).length = 16 := by rw [fl_length _ (by rw [addK, g16_len]; have := HI'.out; have := HJ'.out; omega)]; exact g16_len _
              have c0 : wr.drew.cell? ⟨n2, i * 4 + k, none⟩ = _ := HSk.out.drew.cell (i := i * 4 + k) (by rw [hl16]; have := HI'.out; have := HJ'.out; omega)
              have f0 := HSk.out.drew.fz (i * 4 + k)
              clear hl16
              go_wp2_with fail
              refine NoPanic.normal ?_
              clear c0 f0
              go_wp2_with fail
              go_roundg g2
              case measure => have := HI'.out; omega
              case rel =>
                have hs := HSk.out.drew.set (i * 4 + k) (xa ^^^ xb)
                rw [← HV.out, show i * 4 + k = 4 * i + k from by omega, fl_step (by rw [addK, g16_len]; have := HI'.out; have := HJ'.out; omega), HV.out] at hs
                exact ⟨k + 1, by go_num, Lib.hid (by have := HI'.out; omega), Lib.hid (HTk.out.drew.step (gset _ n2 _ _) HN2.out), Lib.hid (by rw [show i * 4 + k = 4 * i + k from by omega]; exact hs)⟩
            · obtain rfl : k = 4 := by have := HI.out; omega
              clear hk HI
              go_wp2_with fail
              go_roundg g1
              case measure => have := HJ'.out; omega
              case rel => exact ⟨i + 1, by go_num, Lib.hid (by have := HJ'.out; omega), HTk, HSk⟩
      · obtain rfl : i = 4 := by have := HJ.out; omega
        clear hi HJ
        have HS0 := Lib.hid (show AB .u8 tS n2 (rnds key x 0) wr from by
          have := HS.out
          have e := fl_all (addK key x)
          rw [show (addK key x).length = 16 from g16_len _] at e
          rw [rnds]
          rwa [e] at this)
        have HT0 := HT
        clear HS HT
        go_wp2_with fail
        have HL0 := Lib.hid (rnds_len key x)
        have HL8 := Lib.hid (rnds_lt HK8.out HX8.out)
        go_loopg [9] 13 (fun g v9 w' => ∃ q : Nat, v9 = .int .i64 ((q : Int) + 1) ∧ Hid (q ≤ 10 ∧ 10 < g + q) ∧ Hid (TS b (tn + 1) key x n0 w w') ∧ Hid (AB .u8 tS n2 (rnds key x q) w'))
        case atStart => exact ⟨0, rfl, Lib.hid ⟨by omega, by omega⟩, HT0, HS0⟩
        case round =>
          obtain ⟨q, rfl, HJr, HTq, HSq⟩ := hrel
          clear HT0 HS0
          cases gk with
          | zero => have := HJr.out; omega
          | succ g1 =>
            by_cases hq : q < 10
            · have HJr' := Lib.hid (show q < 10 ∧ 10 < (g1 + 1) + q from ⟨hq, HJr.out.2⟩)
              have HQ := Lib.hid hq
              have y0 : (q : Int) < 10 := by omega
              have y1 : (0 : Int) ≤ (q : Int) := by omega
              have y2 : (q : Int) + 1 ≤ 10 := by omega
              clear hq HJr
              have HRs := Lib.hid (rnds_succ key x q)
              obtain ⟨s, hs⟩ : ∃ s, rnds key x q = s := ⟨_, rfl⟩
              have Hsl := Lib.hid (show s.length = 16 from hs ▸ HL0.out q)
              have Hs8 := Lib.hid (show ∀ y ∈ s, y < 256 from hs ▸ HL8.out q)
              rw [hs] at HSq HRs
              clear hs
              obtain ⟨L, hL⟩ : ∃ L, rnd key (q + 1) s = L := ⟨_, rfl⟩
              have HLl := Lib.hid (show L.length = 16 from hL ▸ rnd_len key (q + 1) s)
              have HLg := Lib.hid (show ∀ i k, i < 4 → k < 4 → L.getD (4 * i + k) 0 = (rowT (q + 1) s i).getD k 0 ^^^ (WK key).getD (16 * (q + 1) + (4 * i + k)) 0 from fun i k hi hk => hL ▸ rnd_get key (q + 1) s hi hk)
              rw [hL] at HRs
              clear hL
              go_upto_region 18 with (fail)
              refine wp_at fun W3 hW3 => ?_
              have hb3 : Below wr.heap.size wr W3 := by rw [hW3]; exact (Below.refl _ _).alloc (Nat.le_refl _) _
              have HT5 := Lib.hid (HTq.out.below hb3)
              have HA5 := Lib.hid (show AB .u8 tS wr.heap.size z16 W3 from by rw [hW3]; exact AB.mk wr .u8 _ z16)
              have HB5 := Lib.hid (HSq.out.below HSq.out.lt hb3)
              have HN3 := Lib.hid (show n2 < wr.heap.size from HSq.out.lt)
              clear hW3 hb3 HTq HSq
              generalize wr.heap.size = n3 at *
              have HS5 := Lib.hid (show AB .u8 tS n3 (fl L (4 * 0)) W3 from by rw [show 4 * 0 = 0 from rfl, fl_zero, HLl.out]; exact HA5.out)
              clear HA5
              go_wp2_with fail
              go_loopg [55] 6 (fun g v55 w' => ∃ i : Nat, v55 = .int .i64 (i : Int) ∧ Hid (i ≤ 4 ∧ 4 < g + i) ∧ Hid (TS b (tn + 1) key x n0 w w') ∧ Hid (AB .u8 tS n2 s w') ∧ Hid (AB .u8 tS n3 (fl L (4 * i)) w'))
              case atStart => exact ⟨0, rfl, Lib.hid ⟨by omega, by omega⟩, HT5, HB5, HS5⟩
              case round =>
                obtain ⟨i, rfl, HJ, HT, H2, H3⟩ := hrel
                clear HT5 HB5 HS5
                cases gk with
                | zero => have := HJ.out; omega
                | succ g2 =>
                  by_cases hi : i < 4
                  · have HJ' := Lib.hid (show i < 4 ∧ 4 < (g2 + 1) + i from ⟨hi, HJ.out.2⟩)
                    have HI4 := Lib.hid hi
                    have z0 : (i : Int) < 4 := by omega
                    have z1 : (0 : Int) ≤ (i : Int) := by omega
                    have H3' := Lib.hid (show AB .u8 tS n3 (fl (midA L (subS s) i) (4 * i)) wr from by rw [fl_midA (S := subS s) HLl.out (g16_len _) (by omega)]; exact H3.out)
                    have HMl := Lib.hid (midA_len (L := L) (S := subS s) HLl.out (g16_len _) (Nat.le_of_lt hi))
                    have HMg := Lib.hid (fun k (hk : k < 4) => (midA_get (L := L) (S := subS s) HLl.out hi hk).trans (subS_get s hi hk))
                    clear hi HJ H3
                    go_wp2_with fail
                    go_loopg [58] 6 (fun g v58 w' => ∃ k : Nat, v58 = .int .i64 (k : Int) ∧ Hid (k ≤ 4 ∧ 4 < g + k) ∧ Hid (TS b (tn + 1) key x n0 w w') ∧ Hid (AB .u8 tS n2 s w') ∧ Hid (AB .u8 tS n3 (fl (midA L (subS s) i) (4 * i + k)) w'))
                    case atStart => exact ⟨0, rfl, Lib.hid ⟨by omega, by omega⟩, HT, H2, H3'⟩
                    case round =>
                      obtain ⟨k, rfl, HI, HTk, H2k, H3k⟩ := hrel
                      clear HT H2 H3'
                      cases gk with
                      | zero => have := HI.out; omega
                      | succ g3 =>
                        by_cases hk : k < 4
                        · have HI' := Lib.hid (show k < 4 ∧ 4 < (g3 + 1) + k from ⟨hk, HI.out.2⟩)
                          have z2 : (k : Int) < 4 := by omega
                          have z3 : (0 : Int) ≤ (k : Int) := by omega
                          obtain ⟨m, hm⟩ : ∃ m, m = (i + k) % 4 := ⟨_, rfl⟩
                          have hm4 : m < 4 := by omega
                          have z4 : (m : Int) < 4 := by omega
                          have z5 : (0 : Int) ≤ (m : Int) := by omega
                          have r1 : ((i : Int) + (k : Int)) % 4 = (m : Int) := by omega
                          have r2 : ((i : Int) + (k : Int)).tmod 4 = (m : Int) := by rw [Int.tmod_eq_emod_of_nonneg (by omega)]; omega
                          obtain ⟨xs, hxs⟩ : ∃ y, s.getD (4 * m + k) 0 = y := ⟨_, rfl⟩
                          have g9 : xs < 256 := by rw [← hxs]; exact getD_lt0 (by decide) _ Hs8.out
                          have HRS := Lib.hid (show (midA L (subS s) i).getD (4 * i + k) 0 = bxv xs from by rw [HMg.out k hk, rowS, ← hm, hxs])
                          have c1 := gw H2k.out.lt (show wr.cell? ⟨n2, m * 4 + k, none⟩ = some (.int .u8 (xs : Nat)) from by rw [← hxs, show m * 4 + k = 4 * m + k from by omega]; exact H2k.out.cell (by rw [Hsl.out]; omega))
                          have c2 := gw HTk.out.c.lt (box_cell HTk.out.c HK.out g9)
                          have z6 : (xs : Int) < 256 := by omega
                          clear hm hm4 hxs hk HI g9
                          go_wp2_with fail
                          refine Q.wp_region_segsF none [] [0, 1, 2, 3, 4, 5, 6, 7, 8, 9, 10, 11, 12, 13, 14, 15, 16] 17 (by kernel_rfl) (by kernel_rfl) (by kernel_rfl) (by kernel_rfl) ?_
                          dsimp only [Q.wpSegsF, Q.picks, Q.pick]
                          repeat (go_big_quiet_step (fail))
                          refine wpQuiet_nil ?_
                          clear c1 c2 r1 r2 z4 z5 z6
                          have hl16 : (fl (midA L (subS s) i) (4 * i + k)).length = 16 := by rw [fl_length _ (by rw [HMl.out]; have := HI'.out; have := HJ'.out; omega)]; exact HMl.out
                          have c0 : wr.drew.cell? ⟨n3, i * 4 + k, none⟩ = _ := H3k.out.drew.cell (i := i * 4 + k) (by rw [hl16]; have := HI'.out; have := HJ'.out; omega)
                          have f0 := H3k.out.drew.fz (i * 4 + k)
                          clear hl16
                          go_wp2_with fail
                          refine NoPanic.normal ?_
                          clear c0 f0
                          go_wp2_with fail
                          go_roundg g3
                          case measure => have := HI'.out; omega
                          case rel =>
                            have hs := H3k.out.drew.set (4 * i + k) (bxv xs)
                            rw [← HRS.out, fl_step (by rw [HMl.out]; have := HI'.out; have := HJ'.out; omega), HRS.out] at hs
                            exact ⟨k + 1, by go_num, Lib.hid (by have := HI'.out; omega), Lib.hid (HTk.out.drew.step (gset _ n3 _ _) (by have := HN2.out; have := HN3.out; omega)), Lib.hid (H2k.out.drew.other (by have := HN3.out; omega)), Lib.hid (by rw [show i * 4 + k = 4 * i + k from by omega]; exact hs)⟩
                        · obtain rfl : k = 4 := by have := HI.out; omega
                          clear hk HI
                          have HRo := Lib.hid (show AB .u8 tS n3 (midB L (rowR s i) i) wr from by rw [← flA_row HLl.out HI4.out]; exact H3k.out)
                          clear H3k HMl HMg
                          by_cases h9 : q + 1 < 10
                          · have y3 : (q : Int) + 1 < 10 := by omega
                            have HMx := Lib.hid (fun W (h : CB b 1 0 true (MF key) (tn + 1) W) => mix_any b (tn + 1) key (rowR s i) W h HK.out (rowR_len s HI4.out) (rowR_lt s i))
                            have HRg := Lib.hid (AB.rangeM HRo.out (o := i * 4) (cs := rowR s i) (fun j hj => by rw [show i * 4 + j = 4 * i + j from by omega]; exact midB_get HLl.out (rowR_len s HI4.out) HI4.out (by rw [rowR_len s HI4.out] at hj; exact hj)) (by rw [rowR_len s HI4.out, midB_len HLl.out (rowR_len s HI4.out) HI4.out]; have := HI4.out; omega))
                            have Hrl := Lib.hid (rowR_len s HI4.out)
                            have HTr := Lib.hid (show rowT (q + 1) s i = mixN (rowR s i) from if_pos h9)
                            clear h9
                            go_upto_region 28 with (first
                              | (refine load_midA n3 (i * 4) (rowR s i) rfl rfl rfl HRg.out Try.underlying36 (by rw [Hrl.out]; exact info_w4) ?_)
                              | (go_at_call 39; refine (HMx.out _ HTk.out.c).mono ?_; rintro e w5 ⟨rfl, hb5⟩; (have HT6 := Lib.hid (HTk.out.below hb5)); (have H26 := Lib.hid (H2k.out.below H2k.out.lt hb5)); (have HR6 := Lib.hid (HRo.out.below HRo.out.lt hb5)); clear hb5)
                              | (refine wpList_store_mid rfl 36 (.tmp 87) (.tmp 86) rfl n3 (i * 4) (arr .u8 (mixN (rowR s i))) rfl rfl (AB.thereM HR6.out (by rw [arr_size, mixN_len, midB_len HLl.out Hrl.out HI4.out]; have := HI4.out; omega)) (by rw [arr_size, mixN_len]; exact info_w4) (arr_one _ _) ?_))
                            refine wp_at fun W7 hW7 => ?_
                            have HG7 := Lib.hid (show w5.grownBy W7 (some n3) from by rw [hW7]; exact setCells_grow _ _ _ _)
                            have HRw := Lib.hid (show AB .u8 tS n3 (midB L (rowT (q + 1) s i) i) W7 from by
                              rw [hW7, HTr.out, arr_bys, ← midB_row HLl.out Hrl.out HI4.out _ (mixN_len _), show i * 4 = 4 * i from by omega]
                              exact AB.setM HR6.out (by rw [mixN_len, midB_len HLl.out Hrl.out HI4.out]; have := HI4.out; omega))
                            have HT7 := Lib.hid (HT6.out.step HG7.out (by have := HN2.out; have := HN3.out; omega))
                            have H27 := Lib.hid (H26.out.grown HG7.out (fun e => by injection e with e; have := HN3.out; omega))
                            clear hW7 HG7 HT6 H26 HR6 HMx HRg Hrl HTr HRo HTk H2k y3
                            have HTl := Lib.hid (rowT_len (q + 1) s HI4.out)
                            have HSB := Lib.hid (show AB .u8 tS n3 (fld (fl L (4 * i + 4)) (midB L (rowT (q + 1) s i) i) (4 * i)) W7 from by rw [fld_midB HLl.out HI4.out]; exact HRw.out)
                            have HT8 := HT7
                            have H28 := H27
                            clear HRw HT7 H27
                            go_wp2_with fail
                            go_loopg [88] 6 (fun g v88 w' => ∃ k : Nat, v88 = .int .i64 (k : Int) ∧ Hid (k ≤ 4 ∧ 4 < g + k) ∧ Hid (TS b (tn + 1) key x n0 w w') ∧ Hid (AB .u8 tS n2 s w') ∧ Hid (AB .u8 tS n3 (fld (fl L (4 * i + 4)) (midB L (rowT (q + 1) s i) i) (4 * i + k)) w'))
                            case atStart => exact ⟨0, rfl, Lib.hid ⟨by omega, by omega⟩, HT8, H28, HSB⟩
                            case round =>
                              obtain ⟨k, rfl, HI, HTk, H2k, H3k⟩ := hrel
                              clear HT8 H28 HSB
                              cases gk with
                              | zero => have := HI.out; omega
                              | succ g3 =>
                                by_cases hk : k < 4
                                · have HI' := Lib.hid (show k < 4 ∧ 4 < (g3 + 1) + k from ⟨hk, HI.out.2⟩)
                                  have hi4 := HI4.out
                                  have z2 : (k : Int) < 4 := by omega
                                  have z3 : (0 : Int) ≤ (k : Int) := by omega
                                  have z4 : 4 * ((q : Int) + 1) + (i : Int) < 44 := by have := HQ.out; omega
                                  have z5 : (0 : Int) ≤ 4 * ((q : Int) + 1) + (i : Int) := by omega
                                  have z6 : (4 * ((q : Int) + 1) + (i : Int)).toNat = 4 * (q + 1) + i := by omega
                                  have hnl : (fl L (4 * i + 4)).length = 16 := by rw [fl_length L (by rw [HLl.out]; omega)]; exact HLl.out
                                  have hol := midB_len HLl.out HTl.out hi4
                                  have hfl : (fld (fl L (4 * i + 4)) (midB L (rowT (q + 1) s i) i) (4 * i + k)).length = 16 := by rw [fld_length (hnl.trans hol.symm) (by rw [hnl]; omega)]; exact hol
                                  obtain ⟨xa, hxa⟩ : ∃ y, (rowT (q + 1) s i).getD k 0 = y := ⟨_, rfl⟩
                                  obtain ⟨xb, hxb⟩ : ∃ y, (WK key).getD (16 * (q + 1) + (4 * i + k)) 0 = y := ⟨_, rfl⟩
                                  have hva : (fld (fl L (4 * i + 4)) (midB L (rowT (q + 1) s i) i) (4 * i + k)).getD (4 * i + k) 0 = xa := by rw [fld_get (hnl.trans hol.symm) (by rw [hnl]; omega), midB_get HLl.out HTl.out hi4 hk, hxa]
                                  have p1 : wr.cell? ⟨n3, i * 4 + k, none⟩ = some (.int .u8 (xa : Nat)) := by rw [← hva, show i * 4 + k = 4 * i + k from by omega]; exact H3k.out.cell (by rw [hfl]; omega)
                                  have c1 := gw H3k.out.lt p1
                                  have c2 := gw HTk.out.c.lt (show wr.cell? ⟨b, 532 + (4 * (q + 1) + i) * 4 + k, none⟩ = some (.int .u8 (xb : Nat)) from by rw [← hxb]; exact wk_cell HTk.out.c HK.out (by have := HQ.out; omega) (by omega))
                                  have x1 := xor_u8 xa xb (by rw [← hxa]; exact getD_lt0 (by decide) _ (rowT_lt _ _ _)) (by rw [← hxb]; exact getD_lt0 (by decide) _ (WK_lt HK8.out))
                                  have HV := Lib.hid (show (fl L (4 * i + 4)).getD (4 * i + k) 0 = xa ^^^ xb from by rw [flL_get HLl.out hi4 hk, HLg.out i k hi4 hk, hxa, hxb])
                                  have HST := Lib.hid (fld_step (hnl.trans hol.symm) (i := 4 * i + k) (by rw [hnl]; omega))
                                  clear hxa hxb hk HI hi4 hnl hol hfl hva
                                  go_wp2_with fail
                                  refine Q.wp_region_segsF none [] [0, 1, 2, 3, 4, 5, 6, 7, 8, 9, 10, 11, 12, 13, 14, 15, 16, 17, 18] 19 (by kernel_rfl) (by kernel_rfl) (by kernel_rfl) (by kernel_rfl) ?_
                                  dsimp only [Q.wpSegsF, Q.picks, Q.pick]
                                  repeat (go_big_quiet_step (fail))
                                  refine wpQuiet_nil ?_
                                  clear c1 c2 x1 z4 z5 z6
                                  have c0 : wr.drew.cell? ⟨n3, i * 4 + k, none⟩ = _ := p1
                                  have f0 := H3k.out.drew.fz (i * 4 + k)
                                  go_wp2_with fail
                                  refine NoPanic.normal ?_
                                  clear c0 f0 p1
                                  go_wp2_with fail
                                  go_roundg g3
                                  case measure => have := HI'.out; omega
                                  case rel =>
                                    have hs := H3k.out.drew.set (4 * i + k) (xa ^^^ xb)
                                    rw [← HV.out, HST.out, HV.out] at hs
                                    exact ⟨k + 1, by go_num, Lib.hid (by have := HI'.out; omega), Lib.hid (HTk.out.drew.step (gset _ n3 _ _) (by have := HN2.out; have := HN3.out; omega)), Lib.hid (H2k.out.drew.other (by have := HN3.out; omega)), Lib.hid (by rw [show i * 4 + k = 4 * i + k from by omega]; exact hs)⟩
                                · obtain rfl : k = 4 := by have := HI.out; omega
                                  clear hk HI
                                  have HSn := Lib.hid (show AB .u8 tS n3 (fl L (4 * (i + 1))) wr from by have := H3k.out; rw [fld_all4 HLl.out HTl.out HI4.out] at this; exact this)
                                  clear H3k
                                  go_wp2_with fail
                                  go_roundg g2
                                  case measure => have := HJ'.out; omega
                                  case rel => exact ⟨i + 1, by go_num, Lib.hid (by have := HJ'.out; omega), HTk, H2k, HSn⟩
                          · have y3 : decide ((q : Int) + 1 < 10) = false := decide_eq_false (by omega)
                            have y4 : ¬ (q : Int) + 1 < 10 := by omega
                            have y5 : (10 : Int) ≤ (q : Int) + 1 := by omega
                            have HTr := Lib.hid (show rowT (q + 1) s i = rowR s i from if_neg h9)
                            have HRw := Lib.hid (show AB .u8 tS n3 (midB L (rowT (q + 1) s i) i) wr from by rw [HTr.out]; exact HRo.out)
                            clear h9 HTr HRo
                            have HTl := Lib.hid (rowT_len (q + 1) s HI4.out)
                            have HSB := Lib.hid (show AB .u8 tS n3 (fld (fl L (4 * i + 4)) (midB L (rowT (q + 1) s i) i) (4 * i)) wr from by rw [fld_midB HLl.out HI4.out]; exact HRw.out)
                            have HT8 := HTk
                            have H28 := H2k
                            clear HRw HTk H2k
                            go_wp2_with fail
                            go_loopg [88] 6 (fun g v88 w' => ∃ k : Nat, v88 = .int .i64 (k : Int) ∧ Hid (k ≤ 4 ∧ 4 < g + k) ∧ Hid (TS b (tn + 1) key x n0 w w') ∧ Hid (AB .u8 tS n2 s w') ∧ Hid (AB .u8 tS n3 (fld (fl L (4 * i + 4)) (midB L (rowT (q + 1) s i) i) (4 * i + k)) w'))
                            case atStart => exact ⟨0, rfl, Lib.hid ⟨by omega, by omega⟩, HT8, H28, HSB⟩
                            case round =>
                              obtain ⟨k, rfl, HI, HTk, H2k, H3k⟩ := hrel
                              clear HT8 H28 HSB
                              cases gk with
                              | zero => have := HI.out; omega
                              | succ g3 =>
                                by_cases hk : k < 4
                                · have HI' := Lib.hid (show k < 4 ∧ 4 < (g3 + 1) + k from ⟨hk, HI.out.2⟩)
                                  have hi4 := HI4.out
                                  have z2 : (k : Int) < 4 := by omega
                                  have z3 : (0 : Int) ≤ (k : Int) := by omega
                                  have z4 : 4 * ((q : Int) + 1) + (i : Int) < 44 := by have := HQ.out; omega
                                  have z5 : (0 : Int) ≤ 4 * ((q : Int) + 1) + (i : Int) := by omega
                                  have z6 : (4 * ((q : Int) + 1) + (i : Int)).toNat = 4 * (q + 1) + i := by omega
                                  have hnl : (fl L (4 * i + 4)).length = 16 := by rw [fl_length L (by rw [HLl.out]; omega)]; exact HLl.out
                                  have hol := midB_len HLl.out HTl.out hi4
                                  have hfl : (fld (fl L (4 * i + 4)) (midB L (rowT (q + 1) s i) i) (4 * i + k)).length = 16 := by rw [fld_length (hnl.trans hol.symm) (by rw [hnl]; omega)]; exact hol
                                  obtain ⟨xa, hxa⟩ : ∃ y, (rowT (q + 1) s i).getD k 0 = y := ⟨_, rfl⟩
                                  obtain ⟨xb, hxb⟩ : ∃ y, (WK key).getD (16 * (q + 1) + (4 * i + k)) 0 = y := ⟨_, rfl⟩
                                  have hva : (fld (fl L (4 * i + 4)) (midB L (rowT (q + 1) s i) i) (4 * i + k)).getD (4 * i + k) 0 = xa := by rw [fld_get (hnl.trans hol.symm) (by rw [hnl]; omega), midB_get HLl.out HTl.out hi4 hk, hxa]
                                  have p1 : wr.cell? ⟨n3, i * 4 + k, none⟩ = some (.int .u8 (xa : Nat)) := by rw [← hva, show i * 4 + k = 4 * i + k from by omega]; exact H3k.out.cell (by rw [hfl]; omega)
                                  have c1 := gw H3k.out.lt p1
                                  have c2 := gw HTk.out.c.lt (show wr.cell? ⟨b, 532 + (4 * (q + 1) + i) * 4 + k, none⟩ = some (.int .u8 (xb : Nat)) from by rw [← hxb]; exact wk_cell HTk.out.c HK.out (by have := HQ.out; omega) (by omega))
                                  have x1 := xor_u8 xa xb (by rw [← hxa]; exact getD_lt0 (by decide) _ (rowT_lt _ _ _)) (by rw [← hxb]; exact getD_lt0 (by decide) _ (WK_lt HK8.out))
                                  have HV := Lib.hid (show (fl L (4 * i + 4)).getD (4 * i + k) 0 = xa ^^^ xb from by rw [flL_get HLl.out hi4 hk, HLg.out i k hi4 hk, hxa, hxb])
                                  have HST := Lib.hid (fld_step (hnl.trans hol.symm) (i := 4 * i + k) (by rw [hnl]; omega))
                                  clear hxa hxb hk HI hi4 hnl hol hfl hva
                                  go_wp2_with fail
                                  refine Q.wp_region_segsF none [] [0, 1, 2, 3, 4, 5, 6, 7, 8, 9, 10, 11, 12, 13, 14, 15, 16, 17, 18] 19 (by kernel_rfl) (by kernel_rfl) (by kernel_rfl) (by kernel_rfl) ?_
                                  dsimp only [Q.wpSegsF, Q.picks, Q.pick]
                                  repeat (go_big_quiet_step (fail))
                                  refine wpQuiet_nil ?_
                                  clear c1 c2 x1 z4 z5 z6
                                  have c0 : wr.drew.cell? ⟨n3, i * 4 + k, none⟩ = _ := p1
                                  have f0 := H3k.out.drew.fz (i * 4 + k)
                                  go_wp2_with fail
                                  refine NoPanic.normal ?_
                                  clear c0 f0 p1
                                  go_wp2_with fail
                                  go_roundg g3
                                  case measure => have := HI'.out; omega
                                  case rel =>
                                    have hs := H3k.out.drew.set (4 * i + k) (xa ^^^ xb)
                                    rw [← HV.out, HST.out, HV.out] at hs
                                    exact ⟨k + 1, by go_num, Lib.hid (by have := HI'.out; omega), Lib.hid (HTk.out.drew.step (gset _ n3 _ _) (by have := HN2.out; have := HN3.out; omega)), Lib.hid (H2k.out.drew.other (by have := HN3.out; omega)), Lib.hid (by rw [show i * 4 + k = 4 * i + k from by omega]; exact hs)⟩
                                · obtain rfl : k = 4 := by have := HI.out; omega
                                  clear hk HI
                                  have HSn := Lib.hid (show AB .u8 tS n3 (fl L (4 * (i + 1))) wr from by have := H3k.out; rw [fld_all4 HLl.out HTl.out HI4.out] at this; exact this)
                                  clear H3k
                                  go_wp2_with fail
                                  go_roundg g2
                                  case measure => have := HJ'.out; omega
                                  case rel => exact ⟨i + 1, by go_num, Lib.hid (by have := HJ'.out; omega), HTk, H2k, HSn⟩
                  · obtain rfl : i = 4 := by have := HJ.out; omega
                    clear hi HJ
                    have H3' := Lib.hid (show AB .u8 tS n3 L wr from by have := H3.out; have e := fl_all L; rw [HLl.out] at e; rwa [e] at this)
                    clear H3
                    go_wp2_with (first
                      | (refine load_ab .u8 n3 L rfl rfl rfl H3'.out Try.underlying94 (by rw [HLl.out]; exact info_S) ?_)
                      | (refine store_ab .u8 n2 s L rfl rfl rfl rfl rfl H2.out (by rw [HLl.out]; exact info_S) (by rw [Hsl.out, HLl.out]) ?_; intro w9 h9 hg9; (have H9 := Lib.hid h9); (have HG9 := Lib.hid hg9); clear h9 hg9))
                    go_roundg g1
                    case measure => have := HJr'.out; omega
                    case rel => exact ⟨q + 1, by go_num, Lib.hid (by have := HJr'.out; omega), Lib.hid (HT.out.step HG9.out HN2.out), Lib.hid (by rw [HRs.out]; exact H9.out)⟩
            · obtain rfl : q = 10 := by have := HJr.out; omega
              clear hq HJr
              obtain ⟨s, hs⟩ : ∃ s, rnds key x 10 = s := ⟨_, rfl⟩
              have Hsl := Lib.hid (show s.length = 16 from hs ▸ HL0.out 10)
              have HTP := Lib.hid (show turnP key x = s from hs)
              rw [hs] at HSq
              clear hs
              go_upto_region 36 with (fail)
              refine wp_at fun W3 hW3 => ?_
              have hb3 : Below wr.heap.size wr W3 := by rw [hW3]; exact (Below.refl _ _).alloc (Nat.le_refl _) _
              have HT5 := Lib.hid (HTq.out.below hb3)
              have HA5 := Lib.hid (show AB .u8 tB wr.heap.size z16 W3 from by rw [hW3]; exact AB.mk wr .u8 _ z16)
              have HB5 := Lib.hid (HSq.out.below HSq.out.lt hb3)
              have HN3 := Lib.hid (show n2 < wr.heap.size from HSq.out.lt)
              clear hW3 hb3 HTq HSq
              generalize wr.heap.size = n4 at *
              have HS5 := Lib.hid (show AB .u8 tB n4 (fl s (4 * 0)) W3 from by rw [show 4 * 0 = 0 from rfl, fl_zero, Hsl.out]; exact HA5.out)
              clear HA5
              go_wp2_with fail
              go_loopg [113] 6 (fun g v113 w' => ∃ i : Nat, v113 = .int .i64 (i : Int) ∧ Hid (i ≤ 4 ∧ 4 < g + i) ∧ Hid (TS b (tn + 1) key x n0 w w') ∧ Hid (AB .u8 tS n2 s w') ∧ Hid (AB .u8 tB n4 (fl s (4 * i)) w'))
              case atStart => exact ⟨0, rfl, Lib.hid ⟨by omega, by omega⟩, HT5, HB5, HS5⟩
              case round =>
                obtain ⟨i, rfl, HJ, HT, H2, H3⟩ := hrel
                clear HT5 HB5 HS5
                cases gk with
                | zero => have := HJ.out; omega
                | succ g2 =>
                  by_cases hi : i < 4
                  · have HJ' := Lib.hid (show i < 4 ∧ 4 < (g2 + 1) + i from ⟨hi, HJ.out.2⟩)
                    have z0 : (i : Int) < 4 := by omega
                    have z1 : (0 : Int) ≤ (i : Int) := by omega
                    have hkc := fun W => out_cut n4 i hi W
                    clear hi HJ
                    go_wp2_with fail
                    refine Q.wp_region_segsF none [] [0, 1, 2, 3, 4, 5] 6 (by kernel_rfl) (by kernel_rfl) (by kernel_rfl) (by kernel_rfl) ?_
                    dsimp only [Q.wpSegsF, Q.picks, Q.pick]
                    repeat (go_big_quiet_step (fail))
                    refine wpQuiet_nil ?_
                    clear hkc
                    have h4 : ((s.drop (4 * i)).take 4).length = 4 := by rw [List.length_take, List.length_drop]; have := Hsl.out; have := HJ'.out; omega
                    have h16 : (fl s (4 * i)).length = 16 := by rw [fl_length s (by rw [Hsl.out]; have := HJ'.out; omega)]; exact Hsl.out
                    refine copy_ab (P := Try.prog) rfl (.tmp 118) (.tmp 121) 41 41 rfl 5 Try.underlying41 info_u8s .u8 tB (some ⟨n4, 4 * i, none⟩) (some ⟨n2, i * 4, none⟩) n4 (4 * i) (16 - 4 * i) (16 - 4 * i) 4 4 rfl rfl (fl s (4 * i)) H3.out.drew ((s.drop (4 * i)).take 4) (by rw [h4, min4b HJ'.out.1]) (fun _ => ⟨rfl, _, rfl, fun j hj => ?_⟩) (by rw [h4, h16]; have := HJ'.out; omega) ?_
                    · have hj4 : j < 4 := by rwa [h4] at hj
                      rw [Addr.add_mid, show (wr.drew).cell? ⟨n2, i * 4 + j, none⟩ = _ from H2.out.drew.cell (by rw [Hsl.out]; have := HJ'.out; omega)]
                      congr 3
                      rw [List.getD_eq_getElem?_getD, List.getD_eq_getElem?_getD, List.getElem?_take, if_pos hj4, List.getElem?_drop, show i * 4 + j = 4 * i + j from by omega]
                    · intro w6 h6 hg6
                      rw [fl_splice Hsl.out HJ'.out.1] at h6
                      have H6 := Lib.hid h6
                      have HT6 := Lib.hid (HT.out.drew.step hg6 (by have := HN2.out; have := HN3.out; omega))
                      have H26 := Lib.hid (H2.out.drew.grown hg6 (fun e => by injection e with e; have := HN3.out; omega))
                      clear h6 hg6 h4 h16 HT H2 H3
                      refine NoPanic.normal ?_
                      go_wp2_with fail
                      go_roundg g2
                      case measure => have := HJ'.out; omega
                      case rel => exact ⟨i + 1, by go_num, Lib.hid (by have := HJ'.out; omega), HT6, H26, H6⟩
                  · obtain rfl : i = 4 := by have := HJ.out; omega
                    clear hi HJ
                    have H3' := Lib.hid (show AB .u8 tB n4 s wr from by have := H3.out; have e := fl_all s; rw [Hsl.out] at e; rwa [e] at this)
                    clear H3
                    have Hi := Lib.hid (show (Try.prog.info? tB).map (·.size) = some s.length from by rw [Hsl.out]; exact info_B)
                    go_wp2_with (first
                      | (refine load_ab .u8 n4 s rfl rfl rfl H3'.out Try.underlying26 Hi.out ?_)
                      | (refine store_ab .u8 (n0 + 1) z16 s rfl rfl rfl rfl rfl HT.out.o Hi.out (by rw [Hsl.out]; exact List.length_replicate) ?_; intro w9 h9 hg9; (have H9 := Lib.hid h9); (have HG9 := Lib.hid hg9); clear h9 hg9))
                    have hl := H9.out.load (P := Try.prog) Try.underlying26 Hi.out
                    refine bodyPost_ret (v := .tuple #[.agg (arr .u8 s), .int .i64 0]) (by simp [results, Try.results17, hl, asAddr]) rfl ⟨by rw [HTP.out], ?_, ?_⟩
                    · exact HT.out.c.grown HG9.out (by have := HT.out.lt; omega)
                    · exact grown_up HT.out.g HG9.out (by have := HT.out.sz; omega)
end Go.Proofs.Ytblnclooobggnaa.A
