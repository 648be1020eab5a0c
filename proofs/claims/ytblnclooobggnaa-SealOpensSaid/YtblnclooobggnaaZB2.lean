/-
  Parts of one proof, joined: aes: Turn. | As Q, but for several objects that the events of a region may write. | ctr: New, cipher, Blocks, block. | aes: the document's mixing, in plain Lean. | aes: rows of four, in plain Lean. | aes: the document's Mul and Box. | aes: the document's Boxes. | aes: rows of rows of ints, in memory (rows of one's own behind a row of slices). | aes: the document's Words.
-/
import Derived.Test.YtblnclooobggnaaZB0
import Derived.Test.YtblnclooobggnaaZB1

namespace Go.Proofs.Ytblnclooobggnaa.A
open Go.RowKit Go.Proofs.Ytblnclooobggnaa.L Go.Proofs.Ytblnclooobggnaa.N Go.Proofs.YtblnclooobggnaaW.PrintWords

abbrev tB : TypeId := 26
abbrev tS : TypeId := 94
def z16 : List Nat := List.replicate 16 0
theorem info_B : (Try.prog.info? tB).map (·.size) = some 16 := by kernel_rfl
theorem info_S : (Try.prog.info? tS).map (·.size) = some 16 := by kernel_rfl
theorem wk_cell {b : Nat} {dn st tn : Int} {made : Bool} {key : List Nat} {w : World} (h : CB b dn st made (MF key) tn w) (hk : key.length = 16) {i j : Nat} (hi : i < 176) (e : 532 + i = j) : w.cell? ⟨b, j, none⟩ = some (.int .u8 ((WK key).getD i 0 : Nat)) :=
  wrd_cell h hk hi e rfl
structure TS (b : Nat) (tn : Int) (key x : List Nat) (n0 : Nat) (w ww : World) : Prop where
  c : CB b 1 0 true (MF key) tn ww
  x : AB .u8 tB n0 x ww
  o : AB .u8 tB (n0 + 1) z16 ww
  g : w.grownBy ww (some b)
  lt : b < n0
  sz : w.heap.size = n0
theorem TS.step {b : Nat} {tn : Int} {key x : List Nat} {n0 : Nat} {w ww w' : World} (h : TS b tn key x n0 w ww) {g : Nat} (hg : ww.grownBy w' (some g)) (hn : n0 + 2 ≤ g) : TS b tn key x n0 w w' :=
  ⟨h.c.grown hg (by have := h.lt; omega), h.x.grown hg (fun e => by injection e; omega), h.o.grown hg (fun e => by injection e; omega), grown_up h.g hg (by have := h.sz; omega), h.lt, h.sz⟩
theorem TS.below {b : Nat} {tn : Int} {key x : List Nat} {n0 : Nat} {w ww w' : World} (h : TS b tn key x n0 w ww) (hb : Below ww.heap.size ww w') : TS b tn key x n0 w w' :=
  ⟨h.c.below hb, h.x.below h.x.lt hb, h.o.below h.o.lt hb, h.g.trans (grown_below hb (some b)), h.lt, h.sz⟩
theorem TS.drew {b : Nat} {tn : Int} {key x : List Nat} {n0 : Nat} {w ww : World} (h : TS b tn key x n0 w ww) : TS b tn key x n0 w ww.drew := ⟨h.c.drew, h.x.drew, h.o.drew, h.g.trans (gdrew ww _), h.lt, h.sz⟩
theorem min4b {i : Nat} (h : i < 4) : Nat.min 4 (16 - 4 * i) = 4 := by
  rcases (show i = 0 ∨ i = 1 ∨ i = 2 ∨ i = 3 from by omega) with h | h | h | h <;> subst h <;> rfl
theorem out_cut (g i : Nat) (hi : i < 4) (W : World) : (Instr.sliceAt tB (.pointer (some ⟨g, 0, none⟩)) (some (.int .i64 (4 * (i : Int)))) none none).run Try.prog W = .ok (.slice (some ⟨g, 4 * i, none⟩) (16 - 4 * i) (16 - 4 * i)) W := by
  rcases (show i = 0 ∨ i = 1 ∨ i = 2 ∨ i = 3 from by omega) with h | h | h | h <;> subst h <;> kernel_rfl
theorem AB.rangeM {t : TypeId} {b o : Nat} {l cs : List Nat} {w : World} (h : AB .u8 t b l w) (hc : ∀ j, j < cs.length → l.getD (o + j) 0 = cs.getD j 0) (ho : o + cs.length ≤ l.length) : w.rangeAt b o (bys cs) := fun j v hj => by
  have hjl : j < cs.length := by
    have := (List.getElem?_eq_some_iff.1 hj).1
    rwa [bys_len] at this
  rw [bys_get hjl] at hj
  rw [h.cell (by omega), ← hj, hc j hjl]
theorem AB.thereM {t : TypeId} {b o n : Nat} {l : List Nat} {w : World} (h : AB .u8 t b l w) (ho : o + n ≤ l.length) : w.there b o n := fun j hj => ⟨by rw [h.cell (by omega)]; rfl, h.fz _⟩
theorem AB.setM {t : TypeId} {b o : Nat} {l cs : List Nat} {w : World} (h : AB .u8 t b l w) (ho : o + cs.length ≤ l.length) : AB .u8 t b (splice l o cs) (w.setCells b o (bys cs)) := by
  have h' : w.heap[b]? = some (.cells (bys l).toArray t (0, 0)) := h
  have := setCells_blk b t (bys cs) o (bys l) w h' (by rw [bys_len, bys_len]; exact ho)
  refine this.trans ?_
  congr 2
  unfold splice arr bys
  simp [List.map_take, List.map_drop]
set_option maxRecDepth 100000 in
set_option maxHeartbeats 12800000 in
theorem turn_any (b : Nat) (tn : Int) (key x : List Nat) (w : World) (h : CU b key tn w) (htn : 0 ≤ tn ∧ tn < 4611686018427387904) (hk : key.length = 16) (hk8 : ∀ x ∈ key, x < 256) (hx : x.length = 16) (hx8 : ∀ y ∈ x, y < 256) :
    Calls Try.prog 17 #[.pointer (some ⟨b, 0, none⟩), .agg (arr .u8 x)] w fun e w' => e = .returned (.tuple #[.agg (arr .u8 (turnP key x)), .int .i64 0]) ∧ CB b 1 0 true (MF key) (tn + 1) w' ∧ w.grownBy w' (some b) := by
  have HBl := Lib.hid h.lt
  have HU := Lib.hid h
  have HTn := Lib.hid htn
  have HK := Lib.hid hk
  have HK8 := Lib.hid hk8
  have HX := Lib.hid hx
  have HX8 := Lib.hid hx8
  clear h htn hk hk8 hx hx8
  go_enter Try.func17, Try.ntmps17
  go_upto_region 1 with (fail)
  refine wp_at fun W hW => ?_
  obtain ⟨h2, h4, hb, hsz⟩ := two_ab (k := .u8) (k' := .u8) x z16 hW
  have HT3 := Lib.hid h2
  have HT4 := Lib.hid h4
  have HB := Lib.hid hb
  have HZ := Lib.hid hsz
  have HU1 := Lib.hid (HU.out.below hb)
  have HR := Lib.hid (ready_any b tn key W HU1.out HK.out HK8.out)
  clear hW h2 h4 hb hsz HU
  generalize hn : w.heap.size = n0 at *
  have Hn := Lib.hid hn
  clear hn
  go_upto_region 3 with (go_at_call 37; refine HR.out.mono ?_; rintro e w1 ⟨rfl, hs1, hg1⟩; (have HC1 := Lib.hid hs1); (have HG1 := Lib.hid hg1); clear hs1 hg1 HR)
  have HX3 := Lib.hid (HT3.out.grown HG1.out (fun e => by injection e with e; have := HBl.out; omega))
  have HO3 := Lib.hid (HT4.out.grown HG1.out (fun e => by injection e with e; have := HBl.out; omega))
  go_upto_region 4 with (go_at_call 38; refine (add_any b 1 0 tn true (MF key) w1 HC1.out HTn.out).mono ?_; rintro e w2 ⟨rfl, hw2⟩; (have HW2 := Lib.hid hw2); clear hw2)
  have HTS := Lib.hid (show TS b (tn + 1) key x n0 w w2 from by
    rw [HW2.out]
    exact ⟨HC1.out.stt _, HX3.out.other (by have := HBl.out; omega), HO3.out.other (by have := HBl.out; omega), ((grown_below (by rw [Hn.out]; exact HB.out) (some b)).trans HG1.out).trans (gset _ _ _ _), HBl.out, Hn.out⟩)
  have HN2 := Lib.hid (show n0 + 2 ≤ w2.heap.size from HTS.out.o.lt)
  clear HW2 HC1 HG1 HX3 HO3 HT3 HT4 HB HZ HU1 HTn HBl Hn
  go_upto_region 5 with (fail)
  refine wp_at fun W3 hW3 => ?_
  have hb3 : Below w2.heap.size w2 W3 := by rw [hW3]; exact (Below.refl _ _).alloc (Nat.le_refl _) _
  have HT5 := Lib.hid (HTS.out.below hb3)
  have HS5 := Lib.hid (show AB .u8 tS w2.heap.size z16 W3 from by rw [hW3]; exact AB.mk w2 .u8 _ z16)
  clear hW3 hb3 HTS
  generalize w2.heap.size = n2 at *
  go_wp2_with fail
  go_loopg [24] 6 (fun g v24 w' => ∃ i : Nat, v24 = .int .i64 (i : Int) ∧ Hid (i ≤ 4 ∧ 4 < g + i) ∧ Hid (TS b (tn + 1) key x n0 w w') ∧ Hid (AB .u8 tS n2 (fl (addK key x) (4 * i)) w'))
  case atStart => exact ⟨0, rfl, Lib.hid ⟨by omega, by omega⟩, HT5, HS5⟩
  case round =>
    obtain ⟨i, rfl, HJ, HT, HS⟩ := hrel
    clear HT5 HS5
    cases gk with
    | zero => have := HJ.out; omega
    | succ g1 =>
      by_cases hi : i < 4
      · have HJ' := Lib.hid (show i < 4 ∧ 4 < (g1 + 1) + i from ⟨hi, HJ.out.2⟩)
        have z0 : (i : Int) < 4 := by omega
        have z1 : (0 : Int) ≤ (i : Int) := by omega
        clear hi HJ
        go_wp2_with fail
        go_loopg [27] 6 (fun g v27 w' => ∃ k : Nat, v27 = .int .i64 (k : Int) ∧ Hid (k ≤ 4 ∧ 4 < g + k) ∧ Hid (TS b (tn + 1) key x n0 w w') ∧ Hid (AB .u8 tS n2 (fl (addK key x) (4 * i + k)) w'))
        case atStart => exact ⟨0, rfl, Lib.hid ⟨by omega, by omega⟩, HT, HS⟩
        case round =>
          obtain ⟨k, rfl, HI, HTk, HSk⟩ := hrel
          clear HT HS
          cases gk with
          | zero => have := HI.out; omega
          | succ g2 =>
            by_cases hk : k < 4
            · have HI' := Lib.hid (show k < 4 ∧ 4 < (g2 + 1) + k from ⟨hk, HI.out.2⟩)
              have z2 : (k : Int) < 4 := by omega
              have z3 : (0 : Int) ≤ (k : Int) := by omega
              have z4 : 4 * (i : Int) + (k : Int) < 16 := by omega
              have z5 : (0 : Int) ≤ 4 * (i : Int) + (k : Int) := by omega
              have z6 : (4 * (i : Int) + (k : Int)).toNat = 4 * i + k := by omega
              obtain ⟨xa, hxa⟩ : ∃ y, x.getD (4 * i + k) 0 = y := ⟨_, rfl⟩
              obtain ⟨xb, hxb⟩ : ∃ y, (WK key).getD (4 * i + k) 0 = y := ⟨_, rfl⟩
              have c1 := gw HTk.out.x.lt (show wr.cell? ⟨n0, 4 * i + k, none⟩ = some (.int .u8 (xa : Nat)) from by rw [← hxa]; exact HTk.out.x.cell (by rw [HX.out]; omega))
              have c2 := gw HTk.out.c.lt (show wr.cell? ⟨b, 532 + i * 4 + k, none⟩ = some (.int .u8 (xb : Nat)) from by rw [← hxb]; exact wk_cell HTk.out.c HK.out (by omega) (by omega))
              have x1 := xor_u8 xa xb (by rw [← hxa]; exact getD_lt0 (by decide) _ HX8.out) (by rw [← hxb]; exact getD_lt0 (by decide) _ (WK_lt HK8.out))
              have HV := Lib.hid (show (addK key x).getD (4 * i + k) 0 = xa ^^^ xb from by rw [addK_get key x HJ'.out.1 hk, hxa, hxb])
              clear hxa hxb hk HI
              go_wp2_with fail
              refine Q.wp_region_segsF none [] [0, 1, 2, 3, 4, 5, 6, 7, 8, 9, 10, 11, 12, 13, 14, 15, 16, 17, 18] 19 (by kernel_rfl) (by kernel_rfl) (by kernel_rfl) (by kernel_rfl) ?_
              dsimp only [Q.wpSegsF, Q.picks, Q.pick]
              repeat (go_big_quiet_step (fail))
              refine wpQuiet_nil ?_
              clear c1 c2 x1 z4 z5 z6
              have hl16 : (fl (addK key x) (4 * i + k)).length = 16 := by rw [fl_length _ (by rw [addK, g16_len]; have := HI'.out; have := HJ'.out; omega)]; exact g16_len _
              have c0 : wr.drew.cell? ⟨n2, i * 4 + k, none⟩ = _ := HSk.out.drew.cell (i := i * 4 + k) (by rw [hl16]; have := HI'.out; have := HJ'.out; omega)
              have f0 := HSk.out.drew.fz (i * 4 + k)
              clear hl16
              go_wp2_with fail
              refine NoPanic.normal ?_
              clear c0 f0
              go_wp2_with fail
              go_roundg g2
              case measure => have := HI'.out; omega
              case rel =>
                have hs := HSk.out.drew.set (i * 4 + k) (xa ^^^ xb)
                rw [← HV.out, show i * 4 + k = 4 * i + k from by omega, fl_step (by rw [addK, g16_len]; have := HI'.out; have := HJ'.out; omega), HV.out] at hs
                exact ⟨k + 1, by go_num, Lib.hid (by have := HI'.out; omega), Lib.hid (HTk.out.drew.step (gset _ n2 _ _) HN2.out), Lib.hid (by rw [show i * 4 + k = 4 * i + k from by omega]; exact hs)⟩
            · obtain rfl : k = 4 := by have := HI.out; omega
              clear hk HI
              go_wp2_with fail
              go_roundg g1
              case measure => have := HJ'.out; omega
              case rel => exact ⟨i + 1, by go_num, Lib.hid (by have := HJ'.out; omega), HTk, HSk⟩
      · obtain rfl : i = 4 := by have := HJ.out; omega
        clear hi HJ
        have HS0 := Lib.hid (show AB .u8 tS n2 (rnds key x 0) wr from by
          have := HS.out
          have e := fl_all (addK key x)
          rw [show (addK key x).length = 16 from g16_len _] at e
          rw [rnds]
          rwa [e] at this)
        have HT0 := HT
        clear HS HT
        go_wp2_with fail
        have HL0 := Lib.hid (rnds_len key x)
        have HL8 := Lib.hid (rnds_lt HK8.out HX8.out)
        go_loopg [9] 13 (fun g v9 w' => ∃ q : Nat, v9 = .int .i64 ((q : Int) + 1) ∧ Hid (q ≤ 10 ∧ 10 < g + q) ∧ Hid (TS b (tn + 1) key x n0 w w') ∧ Hid (AB .u8 tS n2 (rnds key x q) w'))
        case atStart => exact ⟨0, rfl, Lib.hid ⟨by omega, by omega⟩, HT0, HS0⟩
        case round =>
          obtain ⟨q, rfl, HJr, HTq, HSq⟩ := hrel
          clear HT0 HS0
          cases gk with
          | zero => have := HJr.out; omega
          | succ g1 =>
            by_cases hq : q < 10
            · have HJr' := Lib.hid (show q < 10 ∧ 10 < (g1 + 1) + q from ⟨hq, HJr.out.2⟩)
              have HQ := Lib.hid hq
              have y0 : (q : Int) < 10 := by omega
              have y1 : (0 : Int) ≤ (q : Int) := by omega
              have y2 : (q : Int) + 1 ≤ 10 := by omega
              clear hq HJr
              have HRs := Lib.hid (rnds_succ key x q)
              obtain ⟨s, hs⟩ : ∃ s, rnds key x q = s := ⟨_, rfl⟩
              have Hsl := Lib.hid (show s.length = 16 from hs ▸ HL0.out q)
              have Hs8 := Lib.hid (show ∀ y ∈ s, y < 256 from hs ▸ HL8.out q)
              rw [hs] at HSq HRs
              clear hs
              obtain ⟨L, hL⟩ : ∃ L, rnd key (q + 1) s = L := ⟨_, rfl⟩
              have HLl := Lib.hid (show L.length = 16 from hL ▸ rnd_len key (q + 1) s)
              have HLg := Lib.hid (show ∀ i k, i < 4 → k < 4 → L.getD (4 * i + k) 0 = (rowT (q + 1) s i).getD k 0 ^^^ (WK key).getD (16 * (q + 1) + (4 * i + k)) 0 from fun i k hi hk => hL ▸ rnd_get key (q + 1) s hi hk)
              rw [hL] at HRs
              clear hL
              go_upto_region 18 with (fail)
              refine wp_at fun W3 hW3 => ?_
              have hb3 : Below wr.heap.size wr W3 := by rw [hW3]; exact (Below.refl _ _).alloc (Nat.le_refl _) _
              have HT5 := Lib.hid (HTq.out.below hb3)
              have HA5 := Lib.hid (show AB .u8 tS wr.heap.size z16 W3 from by rw [hW3]; exact AB.mk wr .u8 _ z16)
              have HB5 := Lib.hid (HSq.out.below HSq.out.lt hb3)
              have HN3 := Lib.hid (show n2 < wr.heap.size from HSq.out.lt)
              clear hW3 hb3 HTq HSq
              generalize wr.heap.size = n3 at *
              have HS5 := Lib.hid (show AB .u8 tS n3 (fl L (4 * 0)) W3 from by rw [show 4 * 0 = 0 from rfl, fl_zero, HLl.out]; exact HA5.out)
              clear HA5
              go_wp2_with fail
              go_loopg [55] 6 (fun g v55 w' => ∃ i : Nat, v55 = .int .i64 (i : Int) ∧ Hid (i ≤ 4 ∧ 4 < g + i) ∧ Hid (TS b (tn + 1) key x n0 w w') ∧ Hid (AB .u8 tS n2 s w') ∧ Hid (AB .u8 tS n3 (fl L (4 * i)) w'))
              case atStart => exact ⟨0, rfl, Lib.hid ⟨by omega, by omega⟩, HT5, HB5, HS5⟩
              case round =>
                obtain ⟨i, rfl, HJ, HT, H2, H3⟩ := hrel
                clear HT5 HB5 HS5
                cases gk with
                | zero => have := HJ.out; omega
                | succ g2 =>
                  by_cases hi : i < 4
                  · have HJ' := Lib.hid (show i < 4 ∧ 4 < (g2 + 1) + i from ⟨hi, HJ.out.2⟩)
                    have HI4 := Lib.hid hi
                    have z0 : (i : Int) < 4 := by omega
                    have z1 : (0 : Int) ≤ (i : Int) := by omega
                    have H3' := Lib.hid (show AB .u8 tS n3 (fl (midA L (subS s) i) (4 * i)) wr from by rw [fl_midA (S := subS s) HLl.out (g16_len _) (by omega)]; exact H3.out)
                    have HMl := Lib.hid (midA_len (L := L) (S := subS s) HLl.out (g16_len _) (Nat.le_of_lt hi))
                    have HMg := Lib.hid (fun k (hk : k < 4) => (midA_get (L := L) (S := subS s) HLl.out hi hk).trans (subS_get s hi hk))
                    clear hi HJ H3
                    go_wp2_with fail
                    go_loopg [58] 6 (fun g v58 w' => ∃ k : Nat, v58 = .int .i64 (k : Int) ∧ Hid (k ≤ 4 ∧ 4 < g + k) ∧ Hid (TS b (tn + 1) key x n0 w w') ∧ Hid (AB .u8 tS n2 s w') ∧ Hid (AB .u8 tS n3 (fl (midA L (subS s) i) (4 * i + k)) w'))
                    case atStart => exact ⟨0, rfl, Lib.hid ⟨by omega, by omega⟩, HT, H2, H3'⟩
                    case round =>
                      obtain ⟨k, rfl, HI, HTk, H2k, H3k⟩ := hrel
                      clear HT H2 H3'
                      cases gk with
                      | zero => have := HI.out; omega
                      | succ g3 =>
                        by_cases hk : k < 4
                        · have HI' := Lib.hid (show k < 4 ∧ 4 < (g3 + 1) + k from ⟨hk, HI.out.2⟩)
                          have z2 : (k : Int) < 4 := by omega
                          have z3 : (0 : Int) ≤ (k : Int) := by omega
                          obtain ⟨m, hm⟩ : ∃ m, m = (i + k) % 4 := ⟨_, rfl⟩
                          have hm4 : m < 4 := by omega
                          have z4 : (m : Int) < 4 := by omega
                          have z5 : (0 : Int) ≤ (m : Int) := by omega
                          have r1 : ((i : Int) + (k : Int)) % 4 = (m : Int) := by omega
                          have r2 : ((i : Int) + (k : Int)).tmod 4 = (m : Int) := by rw [Int.tmod_eq_emod_of_nonneg (by omega)]; omega
                          obtain ⟨xs, hxs⟩ : ∃ y, s.getD (4 * m + k) 0 = y := ⟨_, rfl⟩
                          have g9 : xs < 256 := by rw [← hxs]; exact getD_lt0 (by decide) _ Hs8.out
                          have HRS := Lib.hid (show (midA L (subS s) i).getD (4 * i + k) 0 = bxv xs from by rw [HMg.out k hk, rowS, ← hm, hxs])
                          have c1 := gw H2k.out.lt (show wr.cell? ⟨n2, m * 4 + k, none⟩ = some (.int .u8 (xs : Nat)) from by rw [← hxs, show m * 4 + k = 4 * m + k from by omega]; exact H2k.out.cell (by rw [Hsl.out]; omega))
                          have c2 := gw HTk.out.c.lt (box_cell HTk.out.c HK.out g9)
                          have z6 : (xs : Int) < 256 := by omega
                          clear hm hm4 hxs hk HI g9
                          go_wp2_with fail
                          refine Q.wp_region_segsF none [] [0, 1, 2, 3, 4, 5, 6, 7, 8, 9, 10, 11, 12, 13, 14, 15, 16] 17 (by kernel_rfl) (by kernel_rfl) (by kernel_rfl) (by kernel_rfl) ?_
                          dsimp only [Q.wpSegsF, Q.picks, Q.pick]
                          repeat (go_big_quiet_step (fail))
                          refine wpQuiet_nil ?_
                          clear c1 c2 r1 r2 z4 z5 z6
                          have hl16 : (fl (midA L (subS s) i) (4 * i + k)).length = 16 := by rw [fl_length _ (by rw [HMl.out]; have := HI'.out; have := HJ'.out; omega)]; exact HMl.out
                          have c0 : wr.drew.cell? ⟨n3, i * 4 + k, none⟩ = _ := H3k.out.drew.cell (i := i * 4 + k) (by rw [hl16]; have := HI'.out; have := HJ'.out; omega)
                          have f0 := H3k.out.drew.fz (i * 4 + k)
                          clear hl16
                          go_wp2_with fail
                          refine NoPanic.normal ?_
                          clear c0 f0
                          go_wp2_with fail
                          go_roundg g3
                          case measure => have := HI'.out; omega
                          case rel =>
                            have hs := H3k.out.drew.set (4 * i + k) (bxv xs)
                            rw [← HRS.out, fl_step (by rw [HMl.out]; have := HI'.out; have := HJ'.out; omega), HRS.out] at hs
                            exact ⟨k + 1, by go_num, Lib.hid (by have := HI'.out; omega), Lib.hid (HTk.out.drew.step (gset _ n3 _ _) (by have := HN2.out; have := HN3.out; omega)), Lib.hid (H2k.out.drew.other (by have := HN3.out; omega)), Lib.hid (by rw [show i * 4 + k = 4 * i + k from by omega]; exact hs)⟩
                        · obtain rfl : k = 4 := by have := HI.out; omega
                          clear hk HI
                          have HRo := Lib.hid (show AB .u8 tS n3 (midB L (rowR s i) i) wr from by rw [← flA_row HLl.out HI4.out]; exact H3k.out)
                          clear H3k HMl HMg
                          by_cases h9 : q + 1 < 10
                          · have y3 : (q : Int) + 1 < 10 := by omega
                            have HMx := Lib.hid (fun W (h : CB b 1 0 true (MF key) (tn + 1) W) => mix_any b (tn + 1) key (rowR s i) W h HK.out (rowR_len s HI4.out) (rowR_lt s i))
                            have HRg := Lib.hid (AB.rangeM HRo.out (o := i * 4) (cs := rowR s i) (fun j hj => by rw [show i * 4 + j = 4 * i + j from by omega]; exact midB_get HLl.out (rowR_len s HI4.out) HI4.out (by rw [rowR_len s HI4.out] at hj; exact hj)) (by rw [rowR_len s HI4.out, midB_len HLl.out (rowR_len s HI4.out) HI4.out]; have := HI4.out; omega))
                            have Hrl := Lib.hid (rowR_len s HI4.out)
                            have HTr := Lib.hid (show rowT (q + 1) s i = mixN (rowR s i) from if_pos h9)
                            clear h9
                            go_upto_region 28 with (first
                              | (refine load_midA n3 (i * 4) (rowR s i) rfl rfl rfl HRg.out Try.underlying36 (by rw [Hrl.out]; exact info_w4) ?_)
                              | (go_at_call 39; refine (HMx.out _ HTk.out.c).mono ?_; rintro e w5 ⟨rfl, hb5⟩; (have HT6 := Lib.hid (HTk.out.below hb5)); (have H26 := Lib.hid (H2k.out.below H2k.out.lt hb5)); (have HR6 := Lib.hid (HRo.out.below HRo.out.lt hb5)); clear hb5)
                              | (refine wpList_store_mid rfl 36 (.tmp 87) (.tmp 86) rfl n3 (i * 4) (arr .u8 (mixN (rowR s i))) rfl rfl (AB.thereM HR6.out (by rw [arr_size, mixN_len, midB_len HLl.out Hrl.out HI4.out]; have := HI4.out; omega)) (by rw [arr_size, mixN_len]; exact info_w4) (arr_one _ _) ?_))
                            refine wp_at fun W7 hW7 => ?_
                            have HG7 := Lib.hid (show w5.grownBy W7 (some n3) from by rw [hW7]; exact setCells_grow _ _ _ _)
                            have HRw := Lib.hid (show AB .u8 tS n3 (midB L (rowT (q + 1) s i) i) W7 from by
                              rw [hW7, HTr.out, arr_bys, ← midB_row HLl.out Hrl.out HI4.out _ (mixN_len _), show i * 4 = 4 * i from by omega]
                              exact AB.setM HR6.out (by rw [mixN_len, midB_len HLl.out Hrl.out HI4.out]; have := HI4.out; omega))
                            have HT7 := Lib.hid (HT6.out.step HG7.out (by have := HN2.out; have := HN3.out; omega))
                            have H27 := Lib.hid (H26.out.grown HG7.out (fun e => by injection e with e; have := HN3.out; omega))
                            clear hW7 HG7 HT6 H26 HR6 HMx HRg Hrl HTr HRo HTk H2k y3
                            have HTl := Lib.hid (rowT_len (q + 1) s HI4.out)
                            have HSB := Lib.hid (show AB .u8 tS n3 (fld (fl L (4 * i + 4)) (midB L (rowT (q + 1) s i) i) (4 * i)) W7 from by rw [fld_midB HLl.out HI4.out]; exact HRw.out)
                            have HT8 := HT7
                            have H28 := H27
                            clear HRw HT7 H27
                            go_wp2_with fail
                            go_loopg [88] 6 (fun g v88 w' => ∃ k : Nat, v88 = .int .i64 (k : Int) ∧ Hid (k ≤ 4 ∧ 4 < g + k) ∧ Hid (TS b (tn + 1) key x n0 w w') ∧ Hid (AB .u8 tS n2 s w') ∧ Hid (AB .u8 tS n3 (fld (fl L (4 * i + 4)) (midB L (rowT (q + 1) s i) i) (4 * i + k)) w'))
                            case atStart => exact ⟨0, rfl, Lib.hid ⟨by omega, by omega⟩, HT8, H28, HSB⟩
                            case round =>
                              obtain ⟨k, rfl, HI, HTk, H2k, H3k⟩ := hrel
                              clear HT8 H28 HSB
                              cases gk with
                              | zero => have := HI.out; omega
                              | succ g3 =>
                                by_cases hk : k < 4
                                · have HI' := Lib.hid (show k < 4 ∧ 4 < (g3 + 1) + k from ⟨hk, HI.out.2⟩)
                                  have hi4 := HI4.out
                                  have z2 : (k : Int) < 4 := by omega
                                  have z3 : (0 : Int) ≤ (k : Int) := by omega
                                  have z4 : 4 * ((q : Int) + 1) + (i : Int) < 44 := by have := HQ.out; omega
                                  have z5 : (0 : Int) ≤ 4 * ((q : Int) + 1) + (i : Int) := by omega
                                  have z6 : (4 * ((q : Int) + 1) + (i : Int)).toNat = 4 * (q + 1) + i := by omega
                                  have hnl : (fl L (4 * i + 4)).length = 16 := by rw [fl_length L (by rw [HLl.out]; omega)]; exact HLl.out
                                  have hol := midB_len HLl.out HTl.out hi4
                                  have hfl : (fld (fl L (4 * i + 4)) (midB L (rowT (q + 1) s i) i) (4 * i + k)).length = 16 := by rw [fld_length (hnl.trans hol.symm) (by rw [hnl]; omega)]; exact hol
                                  obtain ⟨xa, hxa⟩ : ∃ y, (rowT (q + 1) s i).getD k 0 = y := ⟨_, rfl⟩
                                  obtain ⟨xb, hxb⟩ : ∃ y, (WK key).getD (16 * (q + 1) + (4 * i + k)) 0 = y := ⟨_, rfl⟩
                                  have hva : (fld (fl L (4 * i + 4)) (midB L (rowT (q + 1) s i) i) (4 * i + k)).getD (4 * i + k) 0 = xa := by rw [fld_get (hnl.trans hol.symm) (by rw [hnl]; omega), midB_get HLl.out HTl.out hi4 hk, hxa]
                                  have p1 : wr.cell? ⟨n3, i * 4 + k, none⟩ = some (.int .u8 (xa : Nat)) := by rw [← hva, show i * 4 + k = 4 * i + k from by omega]; exact H3k.out.cell (by rw [hfl]; omega)
                                  have c1 := gw H3k.out.lt p1
                                  have c2 := gw HTk.out.c.lt (show wr.cell? ⟨b, 532 + (4 * (q + 1) + i) * 4 + k, none⟩ = some (.int .u8 (xb : Nat)) from by rw [← hxb]; exact wk_cell HTk.out.c HK.out (by have := HQ.out; omega) (by omega))
                                  have x1 := xor_u8 xa xb (by rw [← hxa]; exact getD_lt0 (by decide) _ (rowT_lt _ _ _)) (by rw [← hxb]; exact getD_lt0 (by decide) _ (WK_lt HK8.out))
                                  have HV := Lib.hid (show (fl L (4 * i + 4)).getD (4 * i + k) 0 = xa ^^^ xb from by rw [flL_get HLl.out hi4 hk, HLg.out i k hi4 hk, hxa, hxb])
                                  have HST := Lib.hid (fld_step (hnl.trans hol.symm) (i := 4 * i + k) (by rw [hnl]; omega))
                                  clear hxa hxb hk HI hi4 hnl hol hfl hva
                                  go_wp2_with fail
                                  refine Q.wp_region_segsF none [] [0, 1, 2, 3, 4, 5, 6, 7, 8, 9, 10, 11, 12, 13, 14, 15, 16, 17, 18] 19 (by kernel_rfl) (by kernel_rfl) (by kernel_rfl) (by kernel_rfl) ?_
                                  dsimp only [Q.wpSegsF, Q.picks, Q.pick]
                                  repeat (go_big_quiet_step (fail))
                                  refine wpQuiet_nil ?_
                                  clear c1 c2 x1 z4 z5 z6
                                  have c0 : wr.drew.cell? ⟨n3, i * 4 + k, none⟩ = _ := p1
                                  have f0 := H3k.out.drew.fz (i * 4 + k)
                                  go_wp2_with fail
                                  refine NoPanic.normal ?_
                                  clear c0 f0 p1
                                  go_wp2_with fail
                                  go_roundg g3
                                  case measure => have := HI'.out; omega
                                  case rel =>
                                    have hs := H3k.out.drew.set (4 * i + k) (xa ^^^ xb)
                                    rw [← HV.out, HST.out, HV.out] at hs
                                    exact ⟨k + 1, by go_num, Lib.hid (by have := HI'.out; omega), Lib.hid (HTk.out.drew.step (gset _ n3 _ _) (by have := HN2.out; have := HN3.out; omega)), Lib.hid (H2k.out.drew.other (by have := HN3.out; omega)), Lib.hid (by rw [show i * 4 + k = 4 * i + k from by omega]; exact hs)⟩
                                · obtain rfl : k = 4 := by have := HI.out; omega
                                  clear hk HI
                                  have HSn := Lib.hid (show AB .u8 tS n3 (fl L (4 * (i + 1))) wr from by have := H3k.out; rw [fld_all4 HLl.out HTl.out HI4.out] at this; exact this)
                                  clear H3k
                                  go_wp2_with fail
                                  go_roundg g2
                                  case measure => have := HJ'.out; omega
                                  case rel => exact ⟨i + 1, by go_num, Lib.hid (by have := HJ'.out; omega), HTk, H2k, HSn⟩
                          · have y3 : decide ((q : Int) + 1 < 10) = false := decide_eq_false (by omega)
                            have y4 : ¬ (q : Int) + 1 < 10 := by omega
                            have y5 : (10 : Int) ≤ (q : Int) + 1 := by omega
                            have HTr := Lib.hid (show rowT (q + 1) s i = rowR s i from if_neg h9)
                            have HRw := Lib.hid (show AB .u8 tS n3 (midB L (rowT (q + 1) s i) i) wr from by rw [HTr.out]; exact HRo.out)
                            clear h9 HTr HRo
                            have HTl := Lib.hid (rowT_len (q + 1) s HI4.out)
                            have HSB := Lib.hid (show AB .u8 tS n3 (fld (fl L (4 * i + 4)) (midB L (rowT (q + 1) s i) i) (4 * i)) wr from by rw [fld_midB HLl.out HI4.out]; exact HRw.out)
                            have HT8 := HTk
                            have H28 := H2k
                            clear HRw HTk H2k
                            go_wp2_with fail
                            go_loopg [88] 6 (fun g v88 w' => ∃ k : Nat, v88 = .int .i64 (k : Int) ∧ Hid (k ≤ 4 ∧ 4 < g + k) ∧ Hid (TS b (tn + 1) key x n0 w w') ∧ Hid (AB .u8 tS n2 s w') ∧ Hid (AB .u8 tS n3 (fld (fl L (4 * i + 4)) (midB L (rowT (q + 1) s i) i) (4 * i + k)) w'))
                            case atStart => exact ⟨0, rfl, Lib.hid ⟨by omega, by omega⟩, HT8, H28, HSB⟩
                            case round =>
                              obtain ⟨k, rfl, HI, HTk, H2k, H3k⟩ := hrel
                              clear HT8 H28 HSB
                              cases gk with
                              | zero => have := HI.out; omega
                              | succ g3 =>
                                by_cases hk : k < 4
                                · have HI' := Lib.hid (show k < 4 ∧ 4 < (g3 + 1) + k from ⟨hk, HI.out.2⟩)
                                  have hi4 := HI4.out
                                  have z2 : (k : Int) < 4 := by omega
                                  have z3 : (0 : Int) ≤ (k : Int) := by omega
                                  have z4 : 4 * ((q : Int) + 1) + (i : Int) < 44 := by have := HQ.out; omega
                                  have z5 : (0 : Int) ≤ 4 * ((q : Int) + 1) + (i : Int) := by omega
                                  have z6 : (4 * ((q : Int) + 1) + (i : Int)).toNat = 4 * (q + 1) + i := by omega
                                  have hnl : (fl L (4 * i + 4)).length = 16 := by rw [fl_length L (by rw [HLl.out]; omega)]; exact HLl.out
                                  have hol := midB_len HLl.out HTl.out hi4
                                  have hfl : (fld (fl L (4 * i + 4)) (midB L (rowT (q + 1) s i) i) (4 * i + k)).length = 16 := by rw [fld_length (hnl.trans hol.symm) (by rw [hnl]; omega)]; exact hol
                                  obtain ⟨xa, hxa⟩ : ∃ y, (rowT (q + 1) s i).getD k 0 = y := ⟨_, rfl⟩
                                  obtain ⟨xb, hxb⟩ : ∃ y, (WK key).getD (16 * (q + 1) + (4 * i + k)) 0 = y := ⟨_, rfl⟩
                                  have hva : (fld (fl L (4 * i + 4)) (midB L (rowT (q + 1) s i) i) (4 * i + k)).getD (4 * i + k) 0 = xa := by rw [fld_get (hnl.trans hol.symm) (by rw [hnl]; omega), midB_get HLl.out HTl.out hi4 hk, hxa]
                                  have p1 : wr.cell? ⟨n3, i * 4 + k, none⟩ = some (.int .u8 (xa : Nat)) := by rw [← hva, show i * 4 + k = 4 * i + k from by omega]; exact H3k.out.cell (by rw [hfl]; omega)
                                  have c1 := gw H3k.out.lt p1
                                  have c2 := gw HTk.out.c.lt (show wr.cell? ⟨b, 532 + (4 * (q + 1) + i) * 4 + k, none⟩ = some (.int .u8 (xb : Nat)) from by rw [← hxb]; exact wk_cell HTk.out.c HK.out (by have := HQ.out; omega) (by omega))
                                  have x1 := xor_u8 xa xb (by rw [← hxa]; exact getD_lt0 (by decide) _ (rowT_lt _ _ _)) (by rw [← hxb]; exact getD_lt0 (by decide) _ (WK_lt HK8.out))
                                  have HV := Lib.hid (show (fl L (4 * i + 4)).getD (4 * i + k) 0 = xa ^^^ xb from by rw [flL_get HLl.out hi4 hk, HLg.out i k hi4 hk, hxa, hxb])
                                  have HST := Lib.hid (fld_step (hnl.trans hol.symm) (i := 4 * i + k) (by rw [hnl]; omega))
                                  clear hxa hxb hk HI hi4 hnl hol hfl hva
                                  go_wp2_with fail
                                  refine Q.wp_region_segsF none [] [0, 1, 2, 3, 4, 5, 6, 7, 8, 9, 10, 11, 12, 13, 14, 15, 16, 17, 18] 19 (by kernel_rfl) (by kernel_rfl) (by kernel_rfl) (by kernel_rfl) ?_
                                  dsimp only [Q.wpSegsF, Q.picks, Q.pick]
                                  repeat (go_big_quiet_step (fail))
                                  refine wpQuiet_nil ?_
                                  clear c1 c2 x1 z4 z5 z6
                                  have c0 : wr.drew.cell? ⟨n3, i * 4 + k, none⟩ = _ := p1
                                  have f0 := H3k.out.drew.fz (i * 4 + k)
                                  go_wp2_with fail
                                  refine NoPanic.normal ?_
                                  clear c0 f0 p1
                                  go_wp2_with fail
                                  go_roundg g3
                                  case measure => have := HI'.out; omega
                                  case rel =>
                                    have hs := H3k.out.drew.set (4 * i + k) (xa ^^^ xb)
                                    rw [← HV.out, HST.out, HV.out] at hs
                                    exact ⟨k + 1, by go_num, Lib.hid (by have := HI'.out; omega), Lib.hid (HTk.out.drew.step (gset _ n3 _ _) (by have := HN2.out; have := HN3.out; omega)), Lib.hid (H2k.out.drew.other (by have := HN3.out; omega)), Lib.hid (by rw [show i * 4 + k = 4 * i + k from by omega]; exact hs)⟩
                                · obtain rfl : k = 4 := by have := HI.out; omega
                                  clear hk HI
                                  have HSn := Lib.hid (show AB .u8 tS n3 (fl L (4 * (i + 1))) wr from by have := H3k.out; rw [fld_all4 HLl.out HTl.out HI4.out] at this; exact this)
                                  clear H3k
                                  go_wp2_with fail
                                  go_roundg g2
                                  case measure => have := HJ'.out; omega
                                  case rel => exact ⟨i + 1, by go_num, Lib.hid (by have := HJ'.out; omega), HTk, H2k, HSn⟩
                  · obtain rfl : i = 4 := by have := HJ.out; omega
                    clear hi HJ
                    have H3' := Lib.hid (show AB .u8 tS n3 L wr from by have := H3.out; have e := fl_all L; rw [HLl.out] at e; rwa [e] at this)
                    clear H3
                    go_wp2_with (first
                      | (refine load_ab .u8 n3 L rfl rfl rfl H3'.out Try.underlying94 (by rw [HLl.out]; exact info_S) ?_)
                      | (refine store_ab .u8 n2 s L rfl rfl rfl rfl rfl H2.out (by rw [HLl.out]; exact info_S) (by rw [Hsl.out, HLl.out]) ?_; intro w9 h9 hg9; (have H9 := Lib.hid h9); (have HG9 := Lib.hid hg9); clear h9 hg9))
                    go_roundg g1
                    case measure => have := HJr'.out; omega
                    case rel => exact ⟨q + 1, by go_num, Lib.hid (by have := HJr'.out; omega), Lib.hid (HT.out.step HG9.out HN2.out), Lib.hid (by rw [HRs.out]; exact H9.out)⟩
            · obtain rfl : q = 10 := by have := HJr.out; omega
              clear hq HJr
              obtain ⟨s, hs⟩ : ∃ s, rnds key x 10 = s := ⟨_, rfl⟩
              have Hsl := Lib.hid (show s.length = 16 from hs ▸ HL0.out 10)
              have HTP := Lib.hid (show turnP key x = s from hs)
              rw [hs] at HSq
              clear hs
              go_upto_region 36 with (fail)
              refine wp_at fun W3 hW3 => ?_
              have hb3 : Below wr.heap.size wr W3 := by rw [hW3]; exact (Below.refl _ _).alloc (Nat.le_refl _) _
              have HT5 := Lib.hid (HTq.out.below hb3)
              have HA5 := Lib.hid (show AB .u8 tB wr.heap.size z16 W3 from by rw [hW3]; exact AB.mk wr .u8 _ z16)
              have HB5 := Lib.hid (HSq.out.below HSq.out.lt hb3)
              have HN3 := Lib.hid (show n2 < wr.heap.size from HSq.out.lt)
              clear hW3 hb3 HTq HSq
              generalize wr.heap.size = n4 at *
              have HS5 := Lib.hid (show AB .u8 tB n4 (fl s (4 * 0)) W3 from by rw [show 4 * 0 = 0 from rfl, fl_zero, Hsl.out]; exact HA5.out)
              clear HA5
              go_wp2_with fail
              go_loopg [113] 6 (fun g v113 w' => ∃ i : Nat, v113 = .int .i64 (i : Int) ∧ Hid (i ≤ 4 ∧ 4 < g + i) ∧ Hid (TS b (tn + 1) key x n0 w w') ∧ Hid (AB .u8 tS n2 s w') ∧ Hid (AB .u8 tB n4 (fl s (4 * i)) w'))
              case atStart => exact ⟨0, rfl, Lib.hid ⟨by omega, by omega⟩, HT5, HB5, HS5⟩
              case round =>
                obtain ⟨i, rfl, HJ, HT, H2, H3⟩ := hrel
                clear HT5 HB5 HS5
                cases gk with
                | zero => have := HJ.out; omega
                | succ g2 =>
                  by_cases hi : i < 4
                  · have HJ' := Lib.hid (show i < 4 ∧ 4 < (g2 + 1) + i from ⟨hi, HJ.out.2⟩)
                    have z0 : (i : Int) < 4 := by omega
                    have z1 : (0 : Int) ≤ (i : Int) := by omega
                    have hkc := fun W => out_cut n4 i hi W
                    clear hi HJ
                    go_wp2_with fail
                    refine Q.wp_region_segsF none [] [0, 1, 2, 3, 4, 5] 6 (by kernel_rfl) (by kernel_rfl) (by kernel_rfl) (by kernel_rfl) ?_
                    dsimp only [Q.wpSegsF, Q.picks, Q.pick]
                    repeat (go_big_quiet_step (fail))
                    refine wpQuiet_nil ?_
                    clear hkc
                    have h4 : ((s.drop (4 * i)).take 4).length = 4 := by rw [List.length_take, List.length_drop]; have := Hsl.out; have := HJ'.out; omega
                    have h16 : (fl s (4 * i)).length = 16 := by rw [fl_length s (by rw [Hsl.out]; have := HJ'.out; omega)]; exact Hsl.out
                    refine copy_ab (P := Try.prog) rfl (.tmp 118) (.tmp 121) 41 41 rfl 5 Try.underlying41 info_u8s .u8 tB (some ⟨n4, 4 * i, none⟩) (some ⟨n2, i * 4, none⟩) n4 (4 * i) (16 - 4 * i) (16 - 4 * i) 4 4 rfl rfl (fl s (4 * i)) H3.out.drew ((s.drop (4 * i)).take 4) (by rw [h4, min4b HJ'.out.1]) (fun _ => ⟨rfl, _, rfl, fun j hj => ?_⟩) (by rw [h4, h16]; have := HJ'.out; omega) ?_
                    · have hj4 : j < 4 := by rwa [h4] at hj
                      rw [Addr.add_mid, show (wr.drew).cell? ⟨n2, i * 4 + j, none⟩ = _ from H2.out.drew.cell (by rw [Hsl.out]; have := HJ'.out; omega)]
                      congr 3
                      rw [List.getD_eq_getElem?_getD, List.getD_eq_getElem?_getD, List.getElem?_take, if_pos hj4, List.getElem?_drop, show i * 4 + j = 4 * i + j from by omega]
                    · intro w6 h6 hg6
                      rw [fl_splice Hsl.out HJ'.out.1] at h6
                      have H6 := Lib.hid h6
                      have HT6 := Lib.hid (HT.out.drew.step hg6 (by have := HN2.out; have := HN3.out; omega))
                      have H26 := Lib.hid (H2.out.drew.grown hg6 (fun e => by injection e with e; have := HN3.out; omega))
                      clear h6 hg6 h4 h16 HT H2 H3
                      refine NoPanic.normal ?_
                      go_wp2_with fail
                      go_roundg g2
                      case measure => have := HJ'.out; omega
                      case rel => exact ⟨i + 1, by go_num, Lib.hid (by have := HJ'.out; omega), HT6, H26, H6⟩
                  · obtain rfl : i = 4 := by have := HJ.out; omega
                    clear hi HJ
                    have H3' := Lib.hid (show AB .u8 tB n4 s wr from by have := H3.out; have e := fl_all s; rw [Hsl.out] at e; rwa [e] at this)
                    clear H3
                    have Hi := Lib.hid (show (Try.prog.info? tB).map (·.size) = some s.length from by rw [Hsl.out]; exact info_B)
                    go_wp2_with (first
                      | (refine load_ab .u8 n4 s rfl rfl rfl H3'.out Try.underlying26 Hi.out ?_)
                      | (refine store_ab .u8 (n0 + 1) z16 s rfl rfl rfl rfl rfl HT.out.o Hi.out (by rw [Hsl.out]; exact List.length_replicate) ?_; intro w9 h9 hg9; (have H9 := Lib.hid h9); (have HG9 := Lib.hid hg9); clear h9 hg9))
                    have hl := H9.out.load (P := Try.prog) Try.underlying26 Hi.out
                    refine bodyPost_ret (v := .tuple #[.agg (arr .u8 s), .int .i64 0]) (by simp [results, Try.results17, hl, asAddr]) rfl ⟨by rw [HTP.out], ?_, ?_⟩
                    · exact HT.out.c.grown HG9.out (by have := HT.out.lt; omega)
                    · exact grown_up HT.out.g HG9.out (by have := HT.out.sz; omega)
end Go.Proofs.Ytblnclooobggnaa.A

namespace Go.Proofs.Ytblnclooobggnaa.Qs
open Go.RowKit Go.Proofs.Ytblnclooobggnaa.L Go.Proofs.YtblnclooobggnaaW.PrintWords
open Go.Proofs.Ytblnclooobggnaa.Q (qk value_of run_of_quietAt pick picks pick_get)

/-- What has become of W below block B, one row apart: nothing. -/
structure Gr (B : Nat) (row : Nat → Prop) (W w : World) : Prop where
  os : w.os = W.os
  tape : w.tape = W.tape
  output : w.output = W.output
  size : W.heap.size ≤ w.heap.size
  block : ∀ k, k < B → ¬ row k → w.heap[k]? = W.heap[k]?
theorem Gr.refl (B : Nat) (row : Nat → Prop) (W : World) : Gr B row W W := ⟨rfl, rfl, rfl, Nat.le_refl _, fun _ _ _ => rfl⟩
theorem Gr.of_below {B : Nat} {W w : World} (row : Nat → Prop) (h : Below W.heap.size W w) (hB : B ≤ W.heap.size) : Gr B row W w := ⟨h.os, h.tape, h.output, h.size, fun k hk _ => h.block k (by omega)⟩
theorem Gr.of_grown {B : Nat} {W w : World} {row : Nat → Prop} {r : Option Nat} (h : W.grownBy w r) (hr : ∀ k, r = some k → row k) (hB : B ≤ W.heap.size) : Gr B row W w := ⟨h.os, h.tape, h.output, h.size, fun k hk hne => h.block k (by omega) (fun e => hne (hr k e.symm))⟩
/-- A world that has grown out of W. -/
structure GW (W : World) (B : Nat) (row : Nat → Prop) where
  w : World
  h : Gr B row W w
instance (W : World) (B : Nat) (row : Nat → Prop) : Nonempty (GW W B row) := ⟨⟨W, Gr.refl _ _ _⟩⟩
def InG (W : World) (B : Nat) (row : Nat → Prop) (w' : World) : Prop := ∃ n : GW W B row, w' = n.w
theorem InG.self (W : World) (B : Nat) (row : Nat → Prop) : InG W B row W := ⟨⟨W, Gr.refl _ _ _⟩, rfl⟩
/-- A row that may take another one's place: the same, or a newer one. -/
def NewRow (B : Nat) (row row' : Nat → Prop) : Prop := ∀ k, row' k → row k ∨ B ≤ k
theorem NewRow.self (B : Nat) (row : Nat → Prop) : NewRow B row row := fun _ h => .inl h
theorem NewRow.none_ (B : Nat) (row : Nat → Prop) : NewRow B row (fun _ => False) := fun _ h => h.elim
theorem InG.mono {W W1 : World} {B B1 : Nat} {row row' : Nat → Prop} (h : Gr B row W W1) (hB : B ≤ B1) (hr : NewRow B row row') {w' : World} (hw : InG W1 B1 row' w') : InG W B row w' := by
  obtain ⟨n, rfl⟩ := hw
  refine ⟨⟨n.w, ⟨n.h.os.trans h.os, n.h.tape.trans h.tape, n.h.output.trans h.output, Nat.le_trans h.size n.h.size, fun i hi hne => ?_⟩⟩, rfl⟩
  refine (n.h.block i (by omega) (fun he => ?_)).trans (h.block i hi hne)
  rcases hr i he with h1 | h1
  · exact hne h1
  · omega
theorem GW.below {W : World} (n : GW W W.heap.size (fun _ => False)) : Below W.heap.size W n.w := ⟨n.h.os, n.h.tape, n.h.output, n.h.size, fun i hi => n.h.block i hi (fun h => h)⟩
theorem GW.belowB {W : World} {row : Nat → Prop} {B C : Nat} (n : GW W B row) (hB : C ≤ B) (hr : ∀ k, row k → C ≤ k) : Below C W n.w :=
  ⟨n.h.os, n.h.tape, n.h.output, n.h.size, fun i hi => n.h.block i (by omega) (fun he => by have := hr i he; omega)⟩

/-- An event's post: the world has grown, and it goes on. -/
def EvQ (G : World → Prop) (K : Act → World → Prop) (Q : Exit → Act → World → Prop) : Exit → Act → World → Prop
  | .normal, a, w => G w ∧ K a w
  | .panic c, a, w => Q (.panic c) a w
  | .outgrown, a, w => Q .outgrown a w
  | _, _, _ => False
theorem ev_done0 {G : World → Prop} {K : Act → World → Prop} {Q : Exit → Act → World → Prop} {a : Act} {w : World} (h : G w) (k : K a w) : EvQ G K Q .normal a w := ⟨h, k⟩
theorem ev_lets {G : World → Prop} {K : Act → World → Prop} {Q : Exit → Act → World → Prop} (h : LetsOut (EvQ G K Q)) : LetsOut Q := h
theorem ev_wp {P : Program} {G : World → Prop} {K : Act → World → Prop} {Q : Exit → Act → World → Prop} {o : Oper} {a : Act} {w : World} {K1 K' : Act → World → Prop} (h : ∀ a w, K1 a w → K' a w) (hh : o.wp P a w K1 (EvQ G K Q)) : o.wp P a w K' Q := by
  unfold Oper.wp at *
  generalize (execOp a.eval o).run P w = r at *
  cases r with
  | ok n w' =>
    cases n <;> simp only [Oper.upon] at hh ⊢ <;>
      first
        | exact h _ _ hh
        | exact Calls.mono hh (fun e w'' he => by cases e <;> first | exact h _ _ he | exact he)
        | exact Rows.mono hh (fun _ _ he => h _ _ he)
  | halt x w' => cases x <;> simp only [Oper.upon] at hh ⊢ <;> exact hh

/-- The walk: what only reads, in each stretch in the order given; then what comes up alone. -/
def Goes (K : Nat → (Nat → Prop) → Act → World → Prop) (B : Nat) (row : Nat → Prop) (a : Act) (w : World) : Prop := ∃ B' row', B ≤ B' ∧ NewRow B row row' ∧ K B' row' a w
def wpSegs (P : Program) (l : List Oper) (Q : Exit → Act → World → Prop) : List (List Nat × Option Nat) → Nat → (Nat → Prop) → Act → World → Prop
  | [], _, _, a, w => Q .normal a w
  | (is, none) :: r, B, row, a, w => wpQuiet P l.toArray (fun w' => ∃ n : GW w B row, w' = n.w) (fun a' => wpSegs P l Q r B row a' w) (picks l is) a
  | (is, some k) :: r, B, row, a, w => wpQuiet P l.toArray (fun w' => ∃ n : GW w B row, w' = n.w) (fun a' => wpList P l.toArray (EvQ (Gr B row w) (Goes (wpSegs P l Q r) B row) Q) [pick l k] a' w) (picks l is) a
/-- Behind an event that changes nothing older: facts on all that is there now hold on. -/
theorem ev_done {W w : World} {B : Nat} {row : Nat → Prop} {K : Nat → (Nat → Prop) → Act → World → Prop} {Q : Exit → Act → World → Prop} {a : Act} (h : Below W.heap.size W w) (hB : B ≤ W.heap.size) (k : K w.heap.size row a w) :
    EvQ (Gr B row W) (Goes K B row) Q .normal a w := ⟨Gr.of_below row h hB, w.heap.size, row, Nat.le_trans hB h.size, NewRow.self _ _, k⟩
/-- .. facts on what was there at the beginning hold on. -/
theorem ev_keep {W w : World} {B : Nat} {row : Nat → Prop} {K : Nat → (Nat → Prop) → Act → World → Prop} {Q : Exit → Act → World → Prop} {a : Act} (h : Below W.heap.size W w) (hB : B ≤ W.heap.size) (k : K B row a w) :
    EvQ (Gr B row W) (Goes K B row) Q .normal a w := ⟨Gr.of_below row h hB, B, row, Nat.le_refl _, NewRow.self _ _, k⟩
theorem ev_app {W w : World} {B B' : Nat} {row row' : Nat → Prop} {K : Nat → (Nat → Prop) → Act → World → Prop} {Q : Exit → Act → World → Prop} {a : Act} (h : Gr B row W w) (hB : B ≤ B') (hr : NewRow B row row') (k : K B' row' a w) :
    EvQ (Gr B row W) (Goes K B row) Q .normal a w := ⟨h, B', row', hB, hr, k⟩

def quietB (md : Region.Mode) (l : List Oper) : List Nat → Array Bool → Option (Array Bool)
  | [], b => some b
  | i :: r, b => if decide (i < l.length) && qk (pick l i) && Region.free md l.toArray b i && (Region.ready md l.toArray b).contains i then quietB md l r (b.setIfInBounds i true) else none
def segB (md : Region.Mode) (l : List Oper) : List (List Nat × Option Nat) → Array Bool → Bool
  | [], b => Region.ready md l.toArray b == []
  | (is, none) :: r, b => match quietB md l is b with
    | some b' => segB md l r b'
    | none => false
  | (is, some k) :: r, b => match quietB md l is b with
    | some b' => decide (k < l.length) && (Region.ready md l.toArray b' == [k]) && segB md l r (b'.setIfInBounds k true)
    | none => false
def segN : List (List Nat × Option Nat) → Nat
  | [] => 0
  | (is, none) :: r => is.length + segN r
  | (is, some _) :: r => is.length + (segN r + 1)

section
variable {P : Program} {l : List Oper} {Q : Exit → Act → World → Prop} {md : Region.Mode}
theorem held_mono {S S' : World → Prop} (h : ∀ w, S' w → S w) : ∀ (fuel : Nat) (b : Array Bool) (a : Act) (w : World), wpAnyH P md l.toArray Q S' fuel b a w → wpAnyH P md l.toArray Q S fuel b a w
  | 0, _, _, _, hh => hh
  | fuel + 1, _, _, _, hh => ⟨hh.1, fun i hi => wpOp_mono (fun a' w' h' => ⟨h _ h'.1, held_mono h fuel _ a' w' h'.2⟩) (hh.2 i hi)⟩

theorem quiet_sound (hs : Region.noSelect l.toArray = true) (hQ : ∀ c a d v w, Q (.panic c) (a.put d v) w → Q (.panic c) a w) {w : World} {B : Nat} {row : Nat → Prop} {K : Act → Prop} {n : Nat} :
    ∀ (is : List Nat) (b b' : Array Bool) (a : Act), quietB md l is b = some b' → (∀ a', K a' → wpAnyH P md l.toArray Q (InG w B row) n b' a' w) → wpQuiet P l.toArray (InG w B row) K (picks l is) a → wpAnyH P md l.toArray Q (InG w B row) (is.length + n) b a w
  | [], b, b', a, hb, hk, h => by
    injection hb with hb
    subst hb
    rw [List.length_nil, Nat.zero_add]
    exact hk a h
  | i :: r, b, b', a, hb, hk, h => by
    unfold quietB at hb
    split at hb
    · rename_i hc
      simp only [Bool.and_eq_true, decide_eq_true_eq] at hc
      obtain ⟨⟨⟨h1, h2⟩, h3⟩, h4⟩ := hc
      have hi : l.toArray[i]? = some (pick l i) := by simpa using pick_get h1
      rw [List.length_cons, show r.length + 1 + n = (r.length + n) + 1 from by omega]
      have h' : if Region.wanted (pick l i) (yielded l.toArray a.tmps) then (pick l i).quiet P a (InG w B row) (wpQuiet P l.toArray (InG w B row) K (picks l r)) else wpQuiet P l.toArray (InG w B row) K (picks l r) (a.put (pick l i).dst undef) := h
      by_cases hw : Region.wanted (pick l i) (yielded l.toArray a.tmps) = true
      · rw [if_pos hw] at h'
        obtain ⟨v, hv, hn⟩ := h'
        exact wpAnyH_take hi hs h3 h4 (fun c a w => hQ c a _ _ w) (.inl ⟨hw, fun w' hw' => run_of_quietAt h2 (hv w' hw')⟩) (InG.self w B row) (quiet_sound hs hQ r _ b' _ hb hk hn)
      · rw [if_neg hw] at h'
        exact wpAnyH_take hi hs h3 h4 (fun c a w => hQ c a _ _ w) (.inr ⟨by simpa using hw, rfl⟩) (InG.self w B row) (quiet_sound hs hQ r _ b' _ hb hk h')
    · cases hb

theorem segs_sound (hs : Region.noSelect l.toArray = true) (hQ : ∀ c a d v w, Q (.panic c) (a.put d v) w → Q (.panic c) a w) :
    ∀ (segs : List (List Nat × Option Nat)) (B : Nat) (row : Nat → Prop) (b : Array Bool) (a : Act) (w : World), segB md l segs b = true → wpSegs P l Q segs B row a w → wpAnyH P md l.toArray Q (InG w B row) (segN segs) b a w
  | [], B, row, b, a, w, hb, h => ⟨by simpa [segB] using hb, h⟩
  | (is, none) :: r, B, row, b, a, w, hb, h => by
    unfold segB at hb
    split at hb
    · rename_i b' hq
      exact quiet_sound hs hQ is b b' a hq (fun a' ha' => segs_sound hs hQ r B row b' a' w hb ha') h
    · cases hb
  | (is, some k) :: r, B, row, b, a, w, hb, h => by
    unfold segB at hb
    split at hb
    · rename_i b' hq
      simp only [Bool.and_eq_true, decide_eq_true_eq, beq_iff_eq] at hb
      obtain ⟨⟨h1, h2⟩, h3⟩ := hb
      refine quiet_sound (n := segN r + 1) hs hQ is b b' a hq (fun a' ha' => ?_) h
      refine wpAnyH_all h2 (by simp) (fun i hi => ?_)
      obtain rfl : i = k := by simpa using hi
      have hi' : l.toArray[i]? = some (pick l i) := by simpa using pick_get h1
      have key : ∀ a'' w'', (Gr B row w w'' ∧ ∃ B' row', B ≤ B' ∧ NewRow B row row' ∧ wpSegs P l Q r B' row' a'' w'') → InG w B row w'' ∧ wpAnyH P md l.toArray Q (InG w B row) (segN r) (b'.setIfInBounds i true) a'' w'' := fun a'' w'' hh => by
        obtain ⟨hg, B', row', hBB, hr, hh⟩ := hh
        exact ⟨⟨⟨w'', hg⟩, rfl⟩, held_mono (fun _ hw' => InG.mono hg hBB hr hw') _ _ _ _ (segs_sound hs hQ r B' row' _ a'' w'' h3 hh)⟩
      unfold wpOp
      simp only [hi']
      simp only [wpList] at ha'
      by_cases hw : Region.wanted (pick l i) (yielded l.toArray a'.tmps) = true
      · rw [if_pos hw] at ha' ⊢
        rcases ha' with ha' | ⟨h4, h5⟩
        · exact .inl (ev_wp (fun a'' w'' hh => key a'' w'' hh) ha')
        · exact .inr ⟨h4, ev_lets h5⟩
      · rw [if_neg hw] at ha' ⊢
        exact key _ _ ha'
    · cases hb

/-- A REGION THAT DRAWS ITS ORDER, by its stretches. -/
theorem wp_region_segs {id : Nat} {a : Act} {w : World} (row : Nat → Prop) (segs : List (List Nat × Option Nat)) (hm : P.follows .mixedOrders = true) (hs : Region.noSelect l.toArray = true)
    (hb : segB .any l segs (Array.replicate l.length false) = true) (hn : segN segs = l.length)
    (h : wpSegs P l (NoPanic Q) segs w.heap.size row a w.drew) : (Code.region id l.toArray true).wp P Q a w := by
  refine wp_region_noPanic (wp_region_held (S := InG w.drew w.heap.size row) hm ?_)
  have := segs_sound hs (Q := NoPanic Q) (fun _ _ _ _ _ h => h) segs w.heap.size row _ a w.drew hb h
  rw [hn] at this
  simpa using this
end
end Go.Proofs.Ytblnclooobggnaa.Qs

namespace Go.Proofs.Ytblnclooobggnaa.A
open Go.RowKit Go.Proofs.Ytblnclooobggnaa.L Go.Proofs.Ytblnclooobggnaa.N Go.Proofs.YtblnclooobggnaaW.PrintWords

abbrev tSt : TypeId := 98
/-- a stream in memory -/
structure ST (p c : Nat) (key : List Nat) (tn : Nat) (w : World) : Prop where
  sp : w.heap[p]? = some (.cells #[.pointer (some ⟨c, 0, none⟩)] tSt (0, 0))
  cu : CU c key (tn : Int) w
theorem ST.lt {p c : Nat} {key : List Nat} {tn : Nat} {w : World} (h : ST p c key tn w) : p < w.heap.size := blk_lt h.sp
theorem ST.cell {p c : Nat} {key : List Nat} {tn : Nat} {w : World} (h : ST p c key tn w) : w.cell? ⟨p, 0, none⟩ = some (.pointer (some ⟨c, 0, none⟩)) := by rw [blk_cell h.sp]; rfl
theorem ST.below {p c : Nat} {key : List Nat} {tn : Nat} {w w1 : World} (h : ST p c key tn w) (hb : Below w.heap.size w w1) : ST p c key tn w1 := ⟨blk_below h.sp hb, h.cu.below hb⟩
theorem ST.ne {p c : Nat} {key : List Nat} {tn : Nat} {w : World} (h : ST p c key tn w) : p ≠ c := fun e => by
  obtain ⟨cs, hb⟩ := h.cu.blk
  rw [← e, h.sp] at hb
  injection hb with hb
  injection hb with _ hb _
  exact absurd hb (by decide)
theorem ST.turned {p c : Nat} {key : List Nat} {tn tn2 : Nat} {w w1 : World} (h : ST p c key tn w) (hg : w.grownBy w1 (some c)) (hc : CU c key (tn2 : Int) w1) : ST p c key tn2 w1 :=
  ⟨(hg.block p h.lt (fun e => h.ne (by injection e))).trans h.sp, hc⟩
theorem AB.loadQs {P : Program} {k : IntKind} {t e : TypeId} {b n B : Nat} {row : Nat → Prop} {l : List Nat} {w : World} (h : AB k t b l w) (hb : b < B) (hr : ¬ row b) (hu : P.underlying t = some (.array n e)) (hi : (P.info? t).map (·.size) = some l.length) : ∀ w', (∃ m : Qs.GW w B row, w' = m.w) → (Instr.loadAt t (.pointer (some ⟨b, 0, none⟩))).run P w' = .ok (.agg (arr k l)) w' := by
  rintro w' ⟨m, rfl⟩
  have := (h.keep (w1 := m.w) (m.h.block b hb hr)).load (P := P) hu hi
  simp only [Instr.loadAt, Instr.sureAddr, Sem.run_bind, Sem.run_pure, this, Result.andThen]
theorem CU.grown' {b c : Nat} {key : List Nat} {tn : Int} {w w1 : World} (h : CU b key tn w) (hg : w.grownBy w1 (some c)) (hne : b ≠ c) : CU b key tn w1 := h.keep (hg.block b h.lt (fun e => hne (by injection e)))
set_option maxRecDepth 100000 in
set_option maxHeartbeats 1600000 in
theorem newctr_any (key : List Nat) (w : World) (hk : key.length = 16) : Calls Try.prog 24 #[.agg (arr .u8 key)] w fun e w' => ∃ p c, e = .returned (.pointer (some ⟨p, 0, none⟩)) ∧ w.heap.size ≤ c ∧ w.heap.size ≤ p ∧ ST p c key 0 w' ∧ Below w.heap.size w w' := by
  have HK := Lib.hid hk
  clear hk
  go_enter Try.func24, Try.ntmps24
  go_upto_region 1 with (fail)
  refine wp_at fun W hW => ?_
  have HKW := Lib.hid (show AB .u8 27 w.heap.size key W from by rw [hW]; exact AB.mk w .u8 _ key)
  have HBW := Lib.hid (show Below w.heap.size w W from by rw [hW]; exact (Below.refl _ _).alloc (Nat.le_refl _) _)
  clear hW
  go_wp2_with (first
    | (refine load_ab .u8 w.heap.size key rfl rfl rfl HKW.out Try.underlying27 (by rw [HK.out]; exact info_key) ?_)
    | (go_at_call 16; refine (new_any key W HK.out).mono ?_; rintro e w3 ⟨c, rfl, hc1, hc2, hc3⟩; (have HC1 := Lib.hid hc1); (have HCU := Lib.hid hc2); (have HB3 := Lib.hid hc3); clear hc1 hc2 hc3))
  refine bodyPost_ret (v := .pointer (some ⟨w3.heap.size, 0, none⟩)) (by simp [results, Try.results24]) rfl ⟨_, c, rfl, Nat.le_trans HBW.out.size HC1.out, Nat.le_trans HBW.out.size HB3.out.size, ⟨?_, ?_⟩, ?_⟩
  · exact heap_alloc_new w3 _
  · exact HCU.out.below ((Below.refl _ _).alloc (Nat.le_refl _) _)
  · exact (HBW.out.trans (HB3.out.mono HBW.out.size)).alloc (Nat.le_trans HBW.out.size HB3.out.size) _
set_option maxRecDepth 100000 in
theorem cipher_any (p c : Nat) (w : World) (h : w.cell? ⟨p, 0, none⟩ = some (.pointer (some ⟨c, 0, none⟩))) : Calls Try.prog 42 #[.pointer (some ⟨p, 0, none⟩)] w fun e w' => e = .returned (.pointer (some ⟨c, 0, none⟩)) ∧ w' = w := by
  go_enter Try.func42, Try.ntmps42
  go_wp2_with fail
  go_ret
  exact ⟨rfl, rfl⟩
theorem blk_mid (n i : Nat) : fl (be8 n) 8 ++ fl (be8 i) 8 = ctrB n i := by
  have e1 := fl_all (be8 n)
  have e2 := fl_all (be8 i)
  rw [be8_len] at e1 e2
  rw [e1, e2, ctrB]
theorem mid_len {n i k : Nat} (h : k ≤ 8) : (fl (be8 n) k ++ fl (be8 i) k).length = 16 := by
  rw [List.length_append, fl_length _ (by rw [be8_len]; exact h), fl_length _ (by rw [be8_len]; exact h), be8_len, be8_len]
theorem mid_step {n i k : Nat} (h : k < 8) : ((fl (be8 n) k ++ fl (be8 i) k).set k ((be8 n).getD k 0)).set (8 + k) ((be8 i).getD k 0) = fl (be8 n) (k + 1) ++ fl (be8 i) (k + 1) := by
  have l1 : (fl (be8 n) k).length = 8 := by rw [fl_length _ (by rw [be8_len]; omega), be8_len]
  have l2 : (fl (be8 n) (k + 1)).length = 8 := by rw [fl_length _ (by rw [be8_len]; omega), be8_len]
  rw [List.set_append_left _ _ (by omega), fl_step (by rw [be8_len]; exact h), List.set_append_right _ _ (by omega), l2, show 8 + k - 8 = k from by omega, fl_step (by rw [be8_len]; exact h)]
theorem be_int (n k i : Nat) (hk : k < 8) (hi : 7 - k = i) : (n : Int) / 2 ^ (8 * i) % 256 = (((be8 n).getD k 0 : Nat) : Int) := by
  rw [be8_get _ hk, hi, show (256 : Nat) ^ i = 2 ^ (8 * i) from by rw [Nat.pow_mul]]
  simp
set_option maxRecDepth 100000 in
set_option maxHeartbeats 3200000 in
theorem block_any (p c tn n i : Nat) (key : List Nat) (w : World) (h : ST p c key tn w) (htn : tn < 4611686018427387904) (hn : n < 18446744073709551616) (hi : i < 4611686018427387904) (hk : key.length = 16) (hk8 : ∀ x ∈ key, x < 256) :
    Calls Try.prog 43 #[.pointer (some ⟨p, 0, none⟩), .int .u64 (n : Int), .int .i64 (i : Int)] w fun e w' => e = .returned (.tuple #[.agg (arr .u8 (blkN key n i)), .int .i64 0]) ∧ CU c key ((tn + 1 : Nat) : Int) w' ∧ w.grownBy w' (some c) := by
  have HS := Lib.hid h
  have HT := Lib.hid (fun W (h : CU c key (tn : Int) W) => turn_any c tn key (ctrB n i) W h ⟨by omega, by omega⟩ hk hk8 (ctrB_len n i) (ctrB_lt n i))
  have HPl := Lib.hid (blkN_len key n i)
  have HBy := Lib.hid (fun k j (hk : k < 8) (hj : 7 - k = j) => be_int n k j hk hj)
  have HBz := Lib.hid (fun k j (hk : k < 8) (hj : 7 - k = j) => be_int i k j hk hj)
  have HNi := Lib.hid (show n < 18446744073709551616 ∧ i < 4611686018427387904 from ⟨hn, hi⟩)
  have y1 : (n : Int) < 18446744073709551616 := by omega
  have y2 : (i : Int) < 4611686018427387904 := by omega
  have y3 : (0 : Int) ≤ (n : Int) := by omega
  have y4 : (0 : Int) ≤ (i : Int) := by omega
  have y5 : IntKind.u64.wrap (i : Int) = (i : Int) := wraps_u64 _ (by omega) (by omega)
  rw [show turnP key (ctrB n i) = blkN key n i from rfl] at HT
  clear h htn hn hi hk hk8
  generalize blkN key n i = P at *
  have HPi := Lib.hid (show (Try.prog.info? tB).map (·.size) = some P.length from by rw [HPl.out]; exact info_B)
  go_enter Try.func43, Try.ntmps43
  go_upto_region 2 with (fail)
  refine wp_at fun W hW => ?_
  obtain ⟨h6, h8, hb, hsz⟩ := two_ab (k := .u8) (k' := .u8) z16 z16 hW
  have H6 := Lib.hid h6
  have H8 := Lib.hid h8
  have HB := Lib.hid hb
  clear hW h6 h8 hb hsz
  generalize hn0 : w.heap.size = n0 at *
  have Hn0 := Lib.hid hn0
  clear hn0
  go_wp2_with fail
  go_loopg [9, 10] 10 (fun g v9 v10 w' => ∃ k : Nat, v10 = .int .i64 (k : Int) ∧ Hid (k ≤ 8 ∧ 8 < g + k) ∧ Hid (AB .u8 tB n0 z16 w') ∧ Hid (AB .u8 tB (n0 + 1) (fl (be8 n) k ++ fl (be8 i) k) w') ∧ Hid (Below n0 w w'))
  case atStart => exact ⟨0, rfl, Lib.hid ⟨by omega, by omega⟩, H6, Lib.hid (by have := H8.out; rw [fl_zero, fl_zero, be8_len, be8_len]; exact this), HB⟩
  case round =>
    obtain ⟨k, rfl, HJ, HZ, HA, HBk⟩ := hrel
    clear H6 H8 HB
    cases gk with
    | zero => have := HJ.out; omega
    | succ g1 =>
      by_cases hk : k < 8
      · have HJ' := Lib.hid (show k < 8 ∧ 8 < (g1 + 1) + k from ⟨hk, HJ.out.2⟩)
        obtain ⟨j, hj⟩ : ∃ j, 7 - k = j := ⟨_, rfl⟩
        have z0 : (k : Int) < 8 := by omega
        have z1 : (0 : Int) ≤ (k : Int) := by omega
        have z2 : (7 : Int) - (k : Int) = (j : Int) := by omega
        have z3 : (j : Int) ≤ 7 := by omega
        have z4 : (0 : Int) ≤ (j : Int) := by omega
        have z5 : (8 + (k : Int)).toNat = 8 + k := by omega
        have z6 : 8 + (k : Int) < 16 := by omega
        have z7 : (0 : Int) ≤ 8 + (k : Int) := by omega
        have z8 : (k : Int) < 16 := by omega
        have b1 := HBy.out k j hk hj
        have b2 := HBz.out k j hk hj
        obtain ⟨va, hva⟩ : ∃ y, (be8 n).getD k 0 = y := ⟨_, rfl⟩
        obtain ⟨vb, hvb⟩ : ∃ y, (be8 i).getD k 0 = y := ⟨_, rfl⟩
        have hm := mid_step (n := n) (i := i) hk
        rw [hva] at b1 hm
        rw [hvb] at b2 hm
        have HM := Lib.hid hm
        have hl := mid_len (n := n) (i := i) (k := k) (by omega)
        have c1 := HA.out.cell (i := k) (by rw [hl]; omega)
        have f1 := HA.out.fz k
        have c2 := (HA.out.set k va).cell (i := 8 + k) (by rw [List.length_set, hl]; omega)
        have f2 := (HA.out.set k va).fz (8 + k)
        clear hj hva hvb hm hl hk HJ
        go_wp2_with fail
        clear c1 c2 f1 f2 b1 b2
        go_roundg g1
        case measure => have := HJ'.out; omega
        case rel =>
          have hx := (HA.out.set k va).set (8 + k) vb
          rw [HM.out] at hx
          exact ⟨k + 1, by go_num, Lib.hid (by have := HJ'.out; omega), Lib.hid (AB.other (AB.other HZ.out (by omega)) (by omega)), Lib.hid hx, Lib.hid ((HBk.out.setCell (p := ⟨n0 + 1, k, none⟩) (by show n0 ≤ n0 + 1; omega) _).setCell (p := ⟨n0 + 1, 8 + k, none⟩) (by show n0 ≤ n0 + 1; omega) _)⟩
      · obtain rfl : k = 8 := by have := HJ.out; omega
        clear hk HJ
        have HX := Lib.hid (show AB .u8 tB (n0 + 1) (ctrB n i) wr from by have := HA.out; rwa [blk_mid] at this)
        have HSr := Lib.hid (show ST p c key tn wr from HS.out.below (by rw [Hn0.out]; exact HBk.out))
        have HNe := Lib.hid (show c < n0 ∧ p < n0 from by have h1 := HS.out.lt; have h2 := HS.out.cu.lt; rw [Hn0.out] at h1 h2; exact ⟨h2, h1⟩)
        have HXi := Lib.hid (show (Try.prog.info? tB).map (·.size) = some (ctrB n i).length from by rw [ctrB_len]; exact info_B)
        clear HA HS HBy HBz HNi
        go_wp2_with fail
        have HXd := Lib.hid (show AB .u8 tB (n0 + 1) (ctrB n i) wr.drew from HX.out)
        have HZd := Lib.hid (show AB .u8 tB n0 z16 wr.drew from HZ.out)
        have HSd := Lib.hid (show ST p c key tn wr.drew from HSr.out.below (stay0 wr))
        have HBd := Lib.hid HBk.out.drew
        refine Qs.wp_region_segs (fun k => k = c ∨ k = n0) [([0, 2], some 1), ([], some 3), ([4, 5], some 6), ([7], none)] (by kernel_rfl) (by kernel_rfl) (by kernel_rfl) (by kernel_rfl) ?_
        dsimp only [Qs.wpSegs, Q.picks, Q.pick]
        obtain ⟨Wd, hWd⟩ : ∃ W', wr.drew = W' := ⟨_, rfl⟩
        have hsz : wr.heap.size = Wd.heap.size := by rw [← hWd]; rfl
        rw [hsz]
        rw [hWd] at HXd HZd HSd HBd ⊢
        have HLt := Lib.hid HXd.out.lt
        clear hWd hsz HX HZ HSr HBk
        repeat (go_big_quiet_step (fail))
        refine quiet_load tB (.tmp 8) (.pointer (some ⟨n0 + 1, 0, none⟩)) (.agg (arr .u8 (ctrB n i))) rfl rfl rfl (AB.loadQs HXd.out HXd.out.lt (by have := HNe.out; rintro (h | h) <;> omega) Try.underlying26 HXi.out) ?_
        go_simp
        refine wpQuiet_nil ?_
        go_wp2_with fail
        refine (cipher_any p c _ HSd.out.cell).mono ?_
        rintro e w5 ⟨rfl, hw5⟩
        rw [hw5]
        clear hw5 w5
        go_wp2_with fail
        refine Qs.ev_keep (Below.refl _ _) (Nat.le_refl _) ?_
        refine wpQuiet_nil ?_
        go_wp2_with fail
        refine (HT.out _ HSd.out.cu).mono ?_
        rintro e w6 ⟨rfl, hcu, hg⟩
        have HZ6 := Lib.hid (HZd.out.grown hg (fun e => by injection e with e; have := HNe.out; omega))
        have HCU := Lib.hid hcu
        have HG6 := Lib.hid hg
        clear hcu hg
        go_wp2_with fail
        refine Qs.ev_app (Qs.Gr.of_grown HG6.out (fun k hk => .inl (by injection hk with hk; exact hk.symm)) (Nat.le_refl _)) (Nat.le_refl _) (Qs.NewRow.self _ _) ?_
        repeat (go_big_quiet_step (fail))
        refine wpQuiet_nil ?_
        refine store_ab .u8 n0 z16 P rfl rfl rfl rfl rfl HZ6.out HPi.out (by rw [HPl.out]; rfl) ?_
        intro w7 h7 hg7
        have H7 := Lib.hid h7
        have HG7 := Lib.hid hg7
        clear h7 hg7
        refine Qs.ev_app (Qs.Gr.of_grown HG7.out (fun k hk => .inr (by injection hk with hk; exact hk.symm)) HG6.out.size) (Nat.le_refl _) (Qs.NewRow.self _ _) ?_
        repeat (go_big_quiet_step (fail))
        refine wpQuiet_nil ?_
        refine NoPanic.normal ?_
        have hl := H7.out.load (P := Try.prog) Try.underlying26 HPi.out
        have hcu : CU c key ((tn + 1 : Nat) : Int) w7 := (show CU c key ((tn : Int) + 1) w7 from (show CU c key ((tn : Int) + 1) w6 from .inl HCU.out).grown' HG7.out (by have := HNe.out; omega))
        go_wp2_with fail
        exact bodyPost_ret (v := .tuple #[.agg (arr .u8 P), .int .i64 0]) (by simp [results, Try.results43, hl, asAddr]) rfl ⟨rfl, hcu, by
          have h1 : w.grownBy Wd (some c) := grown_below (by rw [Hn0.out]; exact HBd.out) _
          have h2 := h1.trans HG6.out
          exact ⟨HG7.out.os.trans h2.os, HG7.out.tape.trans h2.tape, HG7.out.output.trans h2.output, Nat.le_trans h2.size HG7.out.size, fun k hk hne => (HG7.out.block k (Nat.lt_of_lt_of_le hk h2.size) (fun e => by injection e with e; rw [Hn0.out] at hk; omega)).trans (h2.block k hk hne)⟩⟩
end Go.Proofs.Ytblnclooobggnaa.A

namespace Go.Proofs.Ytblnclooobggnaa.A
open Go.RowKit Go.Proofs.Ytblnclooobggnaa.L Go.Proofs.Ytblnclooobggnaa.N

theorem rmul_two : ∀ a, a < 256 → rmul a 2 = dbl a := by decide +kernel
theorem two_rmul : ∀ a, a < 256 → rmul 2 a = dbl a := by decide +kernel
theorem three_rmul : ∀ a, a < 256 → rmul 3 a = dbl a ^^^ a := by decide +kernel
theorem bmix0 : ∀ a0 a1 a2 a3 D0 D1 : Bool, ((a0 ^^ (((a0 ^^ a1) ^^ a2) ^^ a3)) ^^ (D0 ^^ D1)) = (((D0 ^^ (D1 ^^ a1)) ^^ a2) ^^ a3) := by decide
theorem bmix1 : ∀ a0 a1 a2 a3 D0 D1 : Bool, ((a1 ^^ (((a0 ^^ a1) ^^ a2) ^^ a3)) ^^ (D0 ^^ D1)) = (((D0 ^^ (D1 ^^ a2)) ^^ a3) ^^ a0) := by decide
theorem bmix2 : ∀ a0 a1 a2 a3 D0 D1 : Bool, ((a2 ^^ (((a0 ^^ a1) ^^ a2) ^^ a3)) ^^ (D0 ^^ D1)) = (((D0 ^^ (D1 ^^ a3)) ^^ a0) ^^ a1) := by decide
theorem bmix3 : ∀ a0 a1 a2 a3 D0 D1 : Bool, ((a3 ^^ (((a0 ^^ a1) ^^ a2) ^^ a3)) ^^ (D0 ^^ D1)) = (((D0 ^^ (D1 ^^ a0)) ^^ a1) ^^ a2) := by decide
theorem mixB_ref {a : List Nat} (ha : a.length = 4) (h8 : ∀ x ∈ a, x < 256) {i : Nat} (hi : i < 4) :
    mixB a i = ((rmul 2 (a.getD i 0) ^^^ rmul 3 (a.getD ((i + 1) % 4) 0)) ^^^ a.getD ((i + 2) % 4) 0) ^^^ a.getD ((i + 3) % 4) 0 := by
  obtain ⟨a0, a1, a2, a3, rfl⟩ := len4 ha
  have p0 : a0 < 256 := h8 _ (by simp)
  have p1 : a1 < 256 := h8 _ (by simp)
  have p2 : a2 < 256 := h8 _ (by simp)
  have p3 : a3 < 256 := h8 _ (by simp)
  rcases (show i = 0 ∨ i = 1 ∨ i = 2 ∨ i = 3 from by omega) with h | h | h | h <;> subst h
  · show (a0 ^^^ (a0 ^^^ a1 ^^^ a2 ^^^ a3)) ^^^ dbl (a0 ^^^ a1) = ((rmul 2 a0 ^^^ rmul 3 a1) ^^^ a2) ^^^ a3
    rw [two_rmul _ p0, three_rmul _ p1, dbl_xor _ p0 _ p1]
    apply Nat.eq_of_testBit_eq
    intro i
    simp only [Nat.testBit_xor]
    exact bmix0 _ _ _ _ _ _
  · show (a1 ^^^ (a0 ^^^ a1 ^^^ a2 ^^^ a3)) ^^^ dbl (a1 ^^^ a2) = ((rmul 2 a1 ^^^ rmul 3 a2) ^^^ a3) ^^^ a0
    rw [two_rmul _ p1, three_rmul _ p2, dbl_xor _ p1 _ p2]
    apply Nat.eq_of_testBit_eq
    intro i
    simp only [Nat.testBit_xor]
    exact bmix1 _ _ _ _ _ _
  · show (a2 ^^^ (a0 ^^^ a1 ^^^ a2 ^^^ a3)) ^^^ dbl (a2 ^^^ a3) = ((rmul 2 a2 ^^^ rmul 3 a3) ^^^ a0) ^^^ a1
    rw [two_rmul _ p2, three_rmul _ p3, dbl_xor _ p2 _ p3]
    apply Nat.eq_of_testBit_eq
    intro i
    simp only [Nat.testBit_xor]
    exact bmix2 _ _ _ _ _ _
  · show (a3 ^^^ (a0 ^^^ a1 ^^^ a2 ^^^ a3)) ^^^ dbl (a3 ^^^ a0) = ((rmul 2 a3 ^^^ rmul 3 a0) ^^^ a1) ^^^ a2
    rw [two_rmul _ p3, three_rmul _ p0, dbl_xor _ p3 _ p0]
    apply Nat.eq_of_testBit_eq
    intro i
    simp only [Nat.testBit_xor]
    exact bmix3 _ _ _ _ _ _
end Go.Proofs.Ytblnclooobggnaa.A

namespace Go.Proofs.Ytblnclooobggnaa.A
open Go.RowKit Go.Proofs.Ytblnclooobggnaa.L Go.Proofs.Ytblnclooobggnaa.N

/-- a number of a row of four is one of all numbers -/
theorem flat4 : ∀ (L : List (List Nat)), (∀ r ∈ L, r.length = 4) → ∀ i k, i < L.length → k < 4 → (L.getD i []).getD k 0 = L.flatten.getD (4 * i + k) 0
  | [], _, i, k, hi, _ => absurd hi (by simp)
  | r :: L, h, 0, k, _, hk => by
    have hr : r.length = 4 := h r (by simp)
    rw [List.flatten_cons, Nat.mul_zero, Nat.zero_add, getD_left (by omega)]
    rfl
  | r :: L, h, i + 1, k, hi, hk => by
    have hr : r.length = 4 := h r (by simp)
    rw [List.flatten_cons, show 4 * (i + 1) + k = 4 + (4 * i + k) from by omega, getD_right _ hr, ← flat4 L (fun r hr => h r (by simp [hr])) i k (by simpa using hi) hk]
    rfl
theorem flat4_len : ∀ (L : List (List Nat)), (∀ r ∈ L, r.length = 4) → L.flatten.length = 4 * L.length
  | [], _ => rfl
  | r :: L, h => by
    rw [List.flatten_cons, List.length_append, h r (by simp), flat4_len L (fun r hr => h r (by simp [hr])), List.length_cons]
    omega
theorem flat4_snoc (L : List (List Nat)) (r : List Nat) : (L ++ [r]).flatten = L.flatten ++ r := by simp
/-- the words' rows so far: what the document's Words has after n rounds -/
structure WR (key : List Nat) (n : Nat) (L : List (List Nat)) : Prop where
  four : ∀ r ∈ L, r.length = 4
  all : L.flatten = WS key n
theorem WR.step {key : List Nat} {n : Nat} {L : List (List Nat)} (h : WR key n L) : WR key (n + 1) (L ++ [nxtW (WS key n) (n + 4)]) :=
  ⟨fun r hr => by
    rcases List.mem_append.1 hr with hr | hr
    · exact h.four r hr
    · rw [List.mem_singleton.1 hr, nxtW_len], by rw [flat4_snoc, h.all, WS_succ]⟩
theorem WR.count {key : List Nat} {n : Nat} {L : List (List Nat)} (h : WR key n L) (hk : key.length = 16) : L.length = n + 4 := by
  have e1 := flat4_len L h.four
  rw [h.all, WS_len hk] at e1
  omega
theorem WR.get {key : List Nat} {n : Nat} {L : List (List Nat)} (h : WR key n L) (hk : key.length = 16) {i k : Nat} (hi : i < n + 4) (h4 : k < 4) : (L.getD i []).getD k 0 = (WS key n).getD (4 * i + k) 0 := by
  rw [flat4 L h.four i k (by rw [h.count hk]; exact hi) h4, h.all]
end Go.Proofs.Ytblnclooobggnaa.A

namespace Go.Proofs.Ytblnclooobggnaa.A
open Go.RowKit Go.Proofs.Ytblnclooobggnaa.L Go.Proofs.Ytblnclooobggnaa.N Go.Proofs.YtblnclooobggnaaW.PrintWords

theorem xor_i64 (a b : Nat) (ha : a < 1024) (hb : b < 1024) : bits .xor .i64 (a : Int) (b : Int) = ((a ^^^ b : Nat) : Int) :=
  xor_nat .i64 10 (by decide) (fun n h0 h1 => IntWalk.i64_in _ (by have : (2 : Int) ^ 10 = 1024 := by decide
                                                                   omega)) a b ha hb
theorem xor10 {a b : Nat} (ha : a < 1024) (hb : b < 1024) : a ^^^ b < 1024 := Nat.xor_lt_two_pow (n := 10) ha hb
theorem mul2_lt : ∀ a, a < 256 → mul2 a < 256 := by decide +kernel
theorem mulF_succ (k a b p : Nat) : mulF (k + 1) a b p = mulF k (mul2 a) (b / 2) (if b % 2 = 1 then p ^^^ a else p) := by rw [mulF]
set_option maxRecDepth 100000 in
set_option maxHeartbeats 3200000 in
theorem mul_any (a b : Nat) (w : World) (ha : a < 256) (hb : b < 256) : Calls Try.prog 36 #[.int .i64 (a : Int), .int .i64 (b : Int)] w fun e w' => e = .returned (.int .i64 (rmul a b : Nat)) ∧ w' = w := by
  have HA := Lib.hid ha
  have HB := Lib.hid hb
  obtain ⟨R, hR⟩ : ∃ R, rmul a b = R := ⟨_, rfl⟩
  rw [hR]
  have HR := Lib.hid hR
  clear ha hb hR
  go_enter Try.func36, Try.ntmps36
  go_wp2_with fail
  go_loopg [0, 1, 5, 6] 10 (fun g v0 v1 v5 v6 w' => ∃ a1 b1 p1 i : Nat, v0 = .int .i64 (a1 : Int) ∧ v1 = .int .i64 (b1 : Int) ∧ v5 = .int .i64 (p1 : Int) ∧ v6 = .int .i64 (i : Int) ∧ Hid (i ≤ 8 ∧ 8 < g + i) ∧ Hid (a1 < 256 ∧ b1 < 256 ∧ p1 < 256) ∧ Hid (mulF (8 - i) a1 b1 p1 = R) ∧ Hid (w' = w))
  case atStart => exact ⟨a, b, 0, 0, rfl, rfl, rfl, rfl, Lib.hid ⟨by omega, by omega⟩, Lib.hid ⟨HA.out, HB.out, by omega⟩, HR, Lib.hid rfl⟩
  case round =>
    obtain ⟨a1, b1, p1, i, rfl, rfl, rfl, rfl, HJ, HL, HM, HW⟩ := hrel
    cases gk with
    | zero => have := HJ.out; omega
    | succ k =>
      by_cases hi : i < 8
      · have HJ' := Lib.hid (show i < 8 ∧ 8 < (k + 1) + i from ⟨hi, HJ.out.2⟩)
        have HS := Lib.hid (mulF_succ (8 - (i + 1)) a1 b1 p1)
        rw [show 8 - (i + 1) + 1 = 8 - i from by omega, HM.out] at HS
        have HM2 := Lib.hid (mul2_lt a1 HL.out.1)
        have z0 : (i : Int) < 8 := by omega
        have z1 : (0 : Int) ≤ (i : Int) := by omega
        have z2 : (a1 : Int) < 256 := by have := HL.out; omega
        have z3 : (b1 : Int) < 256 := by have := HL.out; omega
        have z4 : (0 : Int) ≤ (b1 : Int) := by omega
        have z5 : (0 : Int) ≤ (a1 : Int) := by omega
        have d1 : (b1 : Int).tdiv 2 = ((b1 / 2 : Nat) : Int) := by rw [Int.tdiv_eq_ediv_of_nonneg (by omega)]; omega
        have d2 : (b1 : Int) / 2 = ((b1 / 2 : Nat) : Int) := by omega
        obtain ⟨b2, hb2⟩ : ∃ y, b1 / 2 = y := ⟨_, rfl⟩
        rw [hb2] at d1 d2 HS
        have Hb2 := Lib.hid (show b2 < 256 from by have := HL.out; omega)
        have x1 := xor_i64 p1 a1 (by have := HL.out; omega) (by have := HL.out; omega)
        have Hp2 := Lib.hid (xor8 HL.out.2.2 HL.out.1)
        have x2 : bits .xor .i64 ((2 * a1 : Nat) : Int) 283 = ((2 * a1 ^^^ 283 : Nat) : Int) := xor_i64 (2 * a1) 283 (by have := HL.out; omega) (by omega)
        have e2 : 2 * (a1 : Int) = ((2 * a1 : Nat) : Int) := by omega
        obtain ⟨a2, ha2⟩ : ∃ y, 2 * a1 = y := ⟨_, rfl⟩
        have Ha2 := Lib.hid ha2
        rw [ha2] at x2 e2
        by_cases ho : b1 % 2 = 1
        · rw [if_pos ho] at HS
          have m1 : (b1 : Int) % 2 = 1 := by omega
          have m2 : (b1 : Int).tmod 2 = 1 := by rw [Int.tmod_eq_emod_of_nonneg (by omega)]; omega
          by_cases hg : 255 < a2
          · have g1 : (255 : Int) < (a2 : Int) := by omega
            have HG := Lib.hid (show mul2 a1 = a2 ^^^ 283 from by rw [mul2, ha2, if_pos hg])
            clear ha2 hb2 ho hg hi HJ
            go_wp2_with fail
            go_roundg k
            case measure => have := HJ'.out; omega
            case rel => exact ⟨_, _, _, i + 1, rfl, rfl, rfl, by go_num, Lib.hid (by have := HJ'.out; omega), Lib.hid ⟨by rw [← HG.out]; exact HM2.out, Hb2.out, Hp2.out⟩, Lib.hid (by rw [← HG.out]; exact HS.out.symm), HW⟩
          · have g1 : ¬ (255 : Int) < (a2 : Int) := by omega
            have HG := Lib.hid (show mul2 a1 = a2 from by rw [mul2, ha2, if_neg hg])
            clear ha2 hb2 ho hg hi HJ
            go_wp2_with fail
            go_roundg k
            case measure => have := HJ'.out; omega
            case rel => exact ⟨_, _, _, i + 1, rfl, rfl, rfl, by go_num, Lib.hid (by have := HJ'.out; omega), Lib.hid ⟨by rw [← HG.out]; exact HM2.out, Hb2.out, Hp2.out⟩, Lib.hid (by rw [← HG.out]; exact HS.out.symm), HW⟩
        · rw [if_neg ho] at HS
          have m1 : (b1 : Int) % 2 = 0 := by omega
          have m2 : (b1 : Int).tmod 2 = 0 := by rw [Int.tmod_eq_emod_of_nonneg (by omega)]; omega
          by_cases hg : 255 < a2
          · have g1 : (255 : Int) < (a2 : Int) := by omega
            have HG := Lib.hid (show mul2 a1 = a2 ^^^ 283 from by rw [mul2, ha2, if_pos hg])
            clear ha2 hb2 ho hg hi HJ
            go_wp2_with fail
            go_roundg k
            case measure => have := HJ'.out; omega
            case rel => exact ⟨_, _, _, i + 1, rfl, rfl, rfl, by go_num, Lib.hid (by have := HJ'.out; omega), Lib.hid ⟨by rw [← HG.out]; exact HM2.out, Hb2.out, HL.out.2.2⟩, Lib.hid (by rw [← HG.out]; exact HS.out.symm), HW⟩
          · have g1 : ¬ (255 : Int) < (a2 : Int) := by omega
            have HG := Lib.hid (show mul2 a1 = a2 from by rw [mul2, ha2, if_neg hg])
            clear ha2 hb2 ho hg hi HJ
            go_wp2_with fail
            go_roundg k
            case measure => have := HJ'.out; omega
            case rel => exact ⟨_, _, _, i + 1, rfl, rfl, rfl, by go_num, Lib.hid (by have := HJ'.out; omega), Lib.hid ⟨by rw [← HG.out]; exact HM2.out, Hb2.out, HL.out.2.2⟩, Lib.hid (by rw [← HG.out]; exact HS.out.symm), HW⟩
      · obtain rfl : i = 8 := by have := HJ.out; omega
        clear hi HJ
        have HP := Lib.hid (show p1 = R from by have := HM.out; rwa [show 8 - 8 = 0 from rfl, mulF] at this)
        go_wp2_with fail
        go_ret
        exact ⟨by have e := HP.out; subst e; rfl, HW.out⟩
theorem outF_succ (k v o : Nat) : outF (k + 1) v o = outF k (2 * v % 256 + v / 128) (o ^^^ (2 * v % 256 + v / 128)) := by rw [outF]
theorem invF_succ (x j : Nat) : invF x (j + 1) 0 = if rmul x (j + 1) = 1 then j + 1 else invF x j 0 := by rw [invF]
theorem invF_le (x : Nat) : ∀ j, invF x j 0 ≤ j
  | 0 => by rw [invF]; exact Nat.le_refl _
  | j + 1 => by
    rw [invF_succ]
    split
    · exact Nat.le_refl _
    · exact Nat.le_succ_of_le (invF_le x j)
def rv (x : Nat) : Nat := if x = 0 then 0 else invF x 255 0
theorem rbox_get {x : Nat} (h : x < 256) : rbox x = boxT.getD x 0 := by
  rw [← rbox_all, List.getD_eq_getElem?_getD, List.getElem?_map, List.getElem?_range h]
  rfl
set_option maxRecDepth 100000 in
set_option maxHeartbeats 3200000 in
theorem refbox_any (x : Nat) (w : World) (hx : x < 256) : Calls Try.prog 15 #[.int .i64 (x : Int)] w fun e w' => e = .returned (.int .i64 (boxT.getD x 0 : Nat)) ∧ w' = w := by
  obtain ⟨R, hR⟩ : ∃ R, boxT.getD x 0 = R := ⟨_, rfl⟩
  have HR := Lib.hid (show outF 4 (rv x) (rv x ^^^ 99) = R from by rw [← hR, ← rbox_get hx]; rfl)
  have HX := Lib.hid hx
  rw [hR]
  clear hR hx
  by_cases h0 : x = 0
  · subst h0
    go_enter Try.func15, Try.ntmps15
    go_wp2_with fail
    go_loopg [3, 4] 260 (fun g v3 v4 w' => v3 = .int .i64 0 ∧ v4 = .int .i64 1 ∧ Hid (0 < g) ∧ Hid (w' = w))
    case atStart => exact ⟨rfl, rfl, Lib.hid (by omega), Lib.hid rfl⟩
    case round =>
      obtain ⟨rfl, rfl, HJ, HW⟩ := hrel
      obtain ⟨v, hv⟩ : ∃ v : Nat, v = 0 := ⟨0, rfl⟩
      have HVe := Lib.hid (show v = rv 0 from by rw [hv]; rfl)
      have HV := Lib.hid (show v < 256 from by omega)
      cases gk with
      | zero => have := HJ.out; omega
      | succ g1 =>
        have hc : (0 : Int) = (v : Int) := by omega
        have x9 : bits .xor .i64 0 99 = ((v ^^^ 99 : Nat) : Int) := by rw [hv]; kernel_rfl
        have HO := Lib.hid (show outF 4 v (v ^^^ 99) = R from by rw [HVe.out]; exact HR.out)
        have Ho := Lib.hid (show v ^^^ 99 < 256 from xor8 HV.out (by decide))
        have Hv := Lib.hid hv
        generalize v ^^^ 99 = o at *
        clear HR HVe hv hc
        go_wp2_with fail
        clear x9
        go_loopg [3, 5, 6] 6 (fun g v3 v5 v6 w' => ∃ u p i : Nat, v3 = .int .i64 (u : Int) ∧ v5 = .int .i64 (p : Int) ∧ v6 = .int .i64 (i : Int) ∧ Hid (i ≤ 4 ∧ 4 < g + i) ∧ Hid (u < 256 ∧ p < 256) ∧ Hid (outF (4 - i) u p = R) ∧ Hid (w' = w))
        case atStart => exact ⟨v, o, 0, by rw [Hv.out]; rfl, rfl, rfl, Lib.hid ⟨by omega, by omega⟩, Lib.hid ⟨HV.out, Ho.out⟩, HO, HW⟩
        case round =>
          obtain ⟨u, p, i, rfl, rfl, rfl, HJ, HL, HM, HW⟩ := hrel
          cases gk with
          | zero => have := HJ.out; omega
          | succ k =>
            by_cases hi : i < 4
            · have HJ' := Lib.hid (show i < 4 ∧ 4 < (k + 1) + i from ⟨hi, HJ.out.2⟩)
              have HS := Lib.hid (outF_succ (4 - (i + 1)) u p)
              rw [show 4 - (i + 1) + 1 = 4 - i from by omega, HM.out] at HS
              have z0 : (i : Int) < 4 := by omega
              have z1 : (0 : Int) ≤ (i : Int) := by omega
              have z2 : (u : Int) < 256 := by have := HL.out; omega
              have z3 : (0 : Int) ≤ (u : Int) := by omega
              obtain ⟨y, hy⟩ : ∃ y, 2 * u % 256 + u / 128 = y := ⟨_, rfl⟩
              rw [hy] at HS
              have Hy := Lib.hid (show y < 256 from by have := HL.out; omega)
              have e1 : 2 * (u : Int) % 256 + (u : Int) / 128 = (y : Int) := by omega
              have e2 : (2 * (u : Int)).tmod 256 + (u : Int).tdiv 128 = (y : Int) := by rw [Int.tmod_eq_emod_of_nonneg (by omega), Int.tdiv_eq_ediv_of_nonneg (by omega)]; omega
              have x1 := xor_i64 p y (by have := HL.out; omega) (by have := Hy.out; omega)
              have Hx := Lib.hid (show p ^^^ y < 256 from xor8 HL.out.2 Hy.out)
              clear hy hi HJ
              go_wp2_with fail
              go_roundg k
              case measure => have := HJ'.out; omega
              case rel => exact ⟨y, p ^^^ y, i + 1, rfl, rfl, by go_num, Lib.hid (by have := HJ'.out; omega), Lib.hid ⟨Hy.out, Hx.out⟩, Lib.hid HS.out.symm, HW⟩
            · obtain rfl : i = 4 := by have := HJ.out; omega
              clear hi HJ
              have HP := Lib.hid (show p = R from by have := HM.out; rwa [show 4 - 4 = 0 from rfl, outF] at this)
              go_wp2_with fail
              go_ret
              exact ⟨by have e := HP.out; subst e; rfl, HW.out⟩
  · have n0 : ¬ (x : Int) = 0 := by omega
    have HZ := Lib.hid (show rv x = invF x 255 0 from if_neg h0)
    clear h0
    go_enter Try.func15, Try.ntmps15
    go_wp2_with fail
    go_loopg [3, 4] 260 (fun g v3 v4 w' => ∃ j : Nat, v3 = .int .i64 (invF x j 0 : Nat) ∧ v4 = .int .i64 ((j : Int) + 1) ∧ Hid (j ≤ 255 ∧ 255 < g + j) ∧ Hid (w' = w))
    case atStart => exact ⟨0, rfl, rfl, Lib.hid ⟨by omega, by omega⟩, Lib.hid rfl⟩
    case round =>
      obtain ⟨j, rfl, rfl, HJ, HW⟩ := hrel
      cases gk with
      | zero => have := HJ.out; omega
      | succ g1 =>
        by_cases hj : j < 255
        · have HJ' := Lib.hid (show j < 255 ∧ 255 < (g1 + 1) + j from ⟨hj, HJ.out.2⟩)
          have HS := Lib.hid (invF_succ x j)
          have HMu := Lib.hid (fun W => mul_any x (j + 1) W HX.out (by omega))
          have z0 : (j : Int) + 1 < 256 := by omega
          have z1 : (0 : Int) ≤ (j : Int) := by omega
          clear hj HJ
          by_cases hm : rmul x (j + 1) = 1
          · rw [if_pos hm] at HS
            go_wp2_with (go_at_call 36; refine (HMu.out _).mono ?_; rintro e w1 ⟨rfl, hw1⟩; (rw [hw1, hm]); clear hw1 w1)
            go_roundg g1
            case measure => have := HJ'.out; omega
            case rel => exact ⟨j + 1, by rw [HS.out]; go_num, by go_num, Lib.hid (by have := HJ'.out; omega), HW⟩
          · rw [if_neg hm] at HS
            obtain ⟨m, hmm⟩ : ∃ m, rmul x (j + 1) = m := ⟨_, rfl⟩
            rw [hmm] at hm
            have hm' : ¬ (m : Int) = 1 := by omega
            have Hmm := Lib.hid hmm
            clear hmm
            go_wp2_with (go_at_call 36; refine (HMu.out _).mono ?_; rintro e w1 ⟨rfl, hw1⟩; (rw [hw1, Hmm.out]); clear hw1 w1)
            go_roundg g1
            case measure => have := HJ'.out; omega
            case rel => exact ⟨j + 1, by rw [HS.out], by go_num, Lib.hid (by have := HJ'.out; omega), HW⟩
        · obtain rfl : j = 255 := by have := HJ.out; omega
          clear hj HJ
          have HVe := HZ
          have HV := Lib.hid (show invF x 255 0 < 256 from Nat.lt_succ_of_le (invF_le x 255))
          obtain ⟨v, hv⟩ : ∃ v, invF x 255 0 = v := ⟨_, rfl⟩
          rw [hv] at HVe HV
          rw [hv]
          have HVe := Lib.hid HVe.out.symm
          clear hv HZ
          have x9 : bits .xor .i64 (v : Int) 99 = ((v ^^^ 99 : Nat) : Int) := xor_i64 v 99 (by have := HV.out; omega) (by omega)
          have HO := Lib.hid (show outF 4 v (v ^^^ 99) = R from by rw [HVe.out]; exact HR.out)
          have Ho := Lib.hid (show v ^^^ 99 < 256 from xor8 HV.out (by decide))
          generalize v ^^^ 99 = o at *
          clear HR HVe
          go_wp2_with fail
          clear x9
          go_loopg [3, 5, 6] 6 (fun g v3 v5 v6 w' => ∃ u p i : Nat, v3 = .int .i64 (u : Int) ∧ v5 = .int .i64 (p : Int) ∧ v6 = .int .i64 (i : Int) ∧ Hid (i ≤ 4 ∧ 4 < g + i) ∧ Hid (u < 256 ∧ p < 256) ∧ Hid (outF (4 - i) u p = R) ∧ Hid (w' = w))
          case atStart => exact ⟨v, o, 0, rfl, rfl, rfl, Lib.hid ⟨by omega, by omega⟩, Lib.hid ⟨HV.out, Ho.out⟩, HO, HW⟩
          case round =>
            obtain ⟨u, p, i, rfl, rfl, rfl, HJ, HL, HM, HW⟩ := hrel
            cases gk with
            | zero => have := HJ.out; omega
            | succ k =>
              by_cases hi : i < 4
              · have HJ' := Lib.hid (show i < 4 ∧ 4 < (k + 1) + i from ⟨hi, HJ.out.2⟩)
                have HS := Lib.hid (outF_succ (4 - (i + 1)) u p)
                rw [show 4 - (i + 1) + 1 = 4 - i from by omega, HM.out] at HS
                have z0 : (i : Int) < 4 := by omega
                have z1 : (0 : Int) ≤ (i : Int) := by omega
                have z2 : (u : Int) < 256 := by have := HL.out; omega
                have z3 : (0 : Int) ≤ (u : Int) := by omega
                obtain ⟨y, hy⟩ : ∃ y, 2 * u % 256 + u / 128 = y := ⟨_, rfl⟩
                rw [hy] at HS
                have Hy := Lib.hid (show y < 256 from by have := HL.out; omega)
                have e1 : 2 * (u : Int) % 256 + (u : Int) / 128 = (y : Int) := by omega
                have e2 : (2 * (u : Int)).tmod 256 + (u : Int).tdiv 128 = (y : Int) := by rw [Int.tmod_eq_emod_of_nonneg (by omega), Int.tdiv_eq_ediv_of_nonneg (by omega)]; omega
                have x1 := xor_i64 p y (by have := HL.out; omega) (by have := Hy.out; omega)
                have Hx := Lib.hid (show p ^^^ y < 256 from xor8 HL.out.2 Hy.out)
                clear hy hi HJ
                go_wp2_with fail
                go_roundg k
                case measure => have := HJ'.out; omega
                case rel => exact ⟨y, p ^^^ y, i + 1, rfl, rfl, by go_num, Lib.hid (by have := HJ'.out; omega), Lib.hid ⟨Hy.out, Hx.out⟩, Lib.hid HS.out.symm, HW⟩
              · obtain rfl : i = 4 := by have := HJ.out; omega
                clear hi HJ
                have HP := Lib.hid (show p = R from by have := HM.out; rwa [show 4 - 4 = 0 from rfl, outF] at this)
                go_wp2_with fail
                go_ret
                exact ⟨by have e := HP.out; subst e; rfl, HW.out⟩
end Go.Proofs.Ytblnclooobggnaa.A

namespace Go.Proofs.Ytblnclooobggnaa.A
open Go.RowKit Go.Proofs.Ytblnclooobggnaa.L Go.Proofs.Ytblnclooobggnaa.N Go.Proofs.YtblnclooobggnaaW.PrintWords

abbrev tI : TypeId := 3
theorem info_i : (Try.prog.info? tI).map (fun i => (i.zero, i.size, i.bytes)) = some (some (.int .i64 0), 1, 8) := by kernel_rfl
set_option maxRecDepth 100000 in
set_option maxHeartbeats 3200000 in
theorem refboxes_any (w : World) : Calls Try.prog 18 #[] w fun e w' => ∃ v, e = .returned v ∧ (Kd.int .i64).R tI w' w.heap.size (fun _ => True) v (nat boxT) ∧ Below w.heap.size w w' := by
  go_enter Try.func18, Try.ntmps18
  go_wp2_with fail
  go_loopg [1, 2] 258 (fun g v1 v2 w' => ∃ i : Nat, v2 = .int .i64 (i : Int) ∧ Hid (i ≤ 256 ∧ 256 < g + i) ∧ Hid ((Kd.int .i64).R tI w' w.heap.size (fun _ => True) v1 (nat (boxT.take i))) ∧ Hid (Below w.heap.size w w'))
  case atStart => exact ⟨0, rfl, Lib.hid ⟨by omega, by omega⟩, Lib.hid (Kd.R_nil _ _ _ _ _), Lib.hid (Below.refl _ _)⟩
  case round =>
    obtain ⟨i, rfl, HJ, HV, HB⟩ := hrel
    cases gk with
    | zero => have := HJ.out; omega
    | succ k =>
      by_cases hi : i < 256
      · have HJ' := Lib.hid (show i < 256 ∧ 256 < (k + 1) + i from ⟨hi, HJ.out.2⟩)
        have HX := Lib.hid (fun W => refbox_any i W hi)
        have HS := Lib.hid (nat_snoc (l := boxT) (j := i) (by rw [boxT_len]; exact hi))
        have HL := Lib.hid (show (nat (boxT.take i)).length = i from by rw [nat_length, List.length_take, boxT_len]; omega)
        have z0 : (i : Int) < 256 := by omega
        generalize boxT.getD i 0 = y at *
        generalize nat (boxT.take i) = xs at *
        clear hi HJ
        go_wp2_with (first
          | (go_at_call 15; refine (HX.out _).mono ?_; rintro e w1 ⟨rfl, hw1⟩; (rw [hw1]); clear hw1 w1)
          | (at_builtin; refine app1 (w0 := w) .i64 w.heap.size (.tmp 7) (.tmp 10) 34 tI 8 rfl rfl Try.underlying34 info_i (by decide) u1 xs (y : Int) rfl rfl HV.out HB.out HB.out.size (by have := HL.out; have := HJ'.out; omega) ?_; intro v8 w8 hr8 hb8 _; (have HR8 := Lib.hid hr8); (have HB8 := Lib.hid hb8); clear hr8 hb8))
        go_roundg k
        case measure => have := HJ'.out; omega
        case rel => exact ⟨i + 1, by go_num, Lib.hid (by have := HJ'.out; omega), Lib.hid (by rw [← HS.out]; exact HR8.out), HB8⟩
      · obtain rfl : i = 256 := by have := HJ.out; omega
        clear hi HJ
        have HV' := Lib.hid (show (Kd.int .i64).R tI wr w.heap.size (fun _ => True) u1 (nat boxT) from by have := HV.out; rwa [List.take_of_length_le (by rw [boxT_len]; exact Nat.le_refl _)] at this)
        clear HV
        go_wp2_with fail
        go_ret
        exact ⟨_, rfl, HV'.out, HB.out⟩
end Go.Proofs.Ytblnclooobggnaa.A

namespace Go.Proofs.Ytblnclooobggnaa.A
open Go.RowKit Go.Proofs.Ytblnclooobggnaa.L Go.Proofs.Ytblnclooobggnaa.N Go.Proofs.YtblnclooobggnaaW.PrintWords

/-- what these slices of ints read as; each lies in a row of ints -/
def PI (w : World) (ps : List (Option Addr × Nat × Nat)) (L : List (List Nat)) : Prop := ps.length = L.length ∧ ∀ j, j < L.length → (ps.getD j (none, 0, 0)).2.1 = (L.getD j []).length ∧ (Kd.int .i64).C w (ps.getD j (none, 0, 0)).1 (L.getD j []).length (nat (L.getD j [])) ∧ (∀ x ∈ L.getD j [], x < 256) ∧ (L.getD j []).length ≤ (ps.getD j (none, 0, 0)).2.2 ∧ Ty w tI (ps.getD j (none, 0, 0)).1
theorem PI.below {w w1 : World} {ps : List (Option Addr × Nat × Nat)} {L : List (List Nat)} (h : PI w ps L) (hb : Below w.heap.size w w1) : PI w1 ps L :=
  ⟨h.1, fun j hj => ⟨(h.2 j hj).1, Kd.C_below (h.2 j hj).2.1 hb, (h.2 j hj).2.2.1, (h.2 j hj).2.2.2.1, (h.2 j hj).2.2.2.2.below hb⟩⟩
theorem PI.nil (w : World) : PI w [] [] := ⟨rfl, fun j hj => absurd hj (by simp)⟩
/-- an object of another type is written: the rows stay -/
theorem PI.ty {w w1 : World} {ps : List (Option Addr × Nat × Nat)} {L : List (List Nat)} (h : PI w ps L) {b : Nat} {t : TypeId} {cs : Array Value} {fr : Nat × Nat} (hb : w.heap[b]? = some (.cells cs t fr)) (hne : tI ≠ t) (hg : w.grownBy w1 (some b)) : PI w1 ps L :=
  ⟨h.1, fun j hj => ⟨(h.2 j hj).1, C_ty (h.2 j hj).2.1 (h.2 j hj).2.2.2.2 hb hne hg, (h.2 j hj).2.2.1, (h.2 j hj).2.2.2.1, (h.2 j hj).2.2.2.2.move (grown_keep hg (h.2 j hj).2.2.2.2 hb hne)⟩⟩
theorem PI.snoc {w : World} {ps : List (Option Addr × Nat × Nat)} {L : List (List Nat)} {A : Option Addr} {c : Nat} {l : List Nat} (h : PI w ps L) (hC : (Kd.int .i64).C w A l.length (nat l)) (h8 : ∀ x ∈ l, x < 256) (hc : l.length ≤ c) (hT : Ty w tI A) : PI w (ps ++ [(A, l.length, c)]) (L ++ [l]) := by
  refine ⟨by simp [h.1], fun j hj => ?_⟩
  by_cases hl : j < L.length
  · have e1 : (ps ++ [(A, l.length, c)]).getD j (none, 0, 0) = ps.getD j (none, 0, 0) := by rw [List.getD_eq_getElem?_getD, List.getElem?_append_left (by rw [h.1]; exact hl), ← List.getD_eq_getElem?_getD]
    have e2 : (L ++ [l]).getD j [] = L.getD j [] := by rw [List.getD_eq_getElem?_getD, List.getElem?_append_left hl, ← List.getD_eq_getElem?_getD]
    rw [e1, e2]
    exact h.2 j hl
  · have hj' : j = L.length := by simp at hj; omega
    subst hj'
    have e1 : (ps ++ [(A, l.length, c)]).getD L.length (none, 0, 0) = (A, l.length, c) := by rw [List.getD_eq_getElem?_getD, ← h.1, List.getElem?_append_right (Nat.le_refl _)]; simp
    have e2 : (L ++ [l]).getD L.length [] = l := by rw [List.getD_eq_getElem?_getD, List.getElem?_append_right (Nat.le_refl _)]; simp
    rw [e1, e2]
    exact ⟨rfl, hC, h8, hc, hT⟩
end Go.Proofs.Ytblnclooobggnaa.A

namespace Go.Proofs.Ytblnclooobggnaa.A
open Go.RowKit Go.Proofs.Ytblnclooobggnaa.L Go.Proofs.Ytblnclooobggnaa.N Go.Proofs.YtblnclooobggnaaW.PrintWords

abbrev tSI : TypeId := 34
abbrev tSS : TypeId := 39
theorem info_si : (Try.prog.info? tSI).map (fun i => (i.zero, i.size, i.bytes)) = some (some (.slice none 0 0), 1, 24) := by kernel_rfl
theorem gr_own {B : Nat} {W w1 : World} {v : Value} (hg : W.grownBy w1 v.ownBlock) (hv : ∀ k, v.ownBlock = some k → B ≤ k) (hB : B ≤ W.heap.size) : Q.Gr B none W w1 :=
  ⟨hg.os, hg.tape, hg.output, hg.size, fun k hk _ => hg.block k (by omega) (fun he => by have := hv k he.symm; omega)⟩
theorem ev_keepN {W w1 : World} {B : Nat} {row : Option Nat} {K : Nat → Option Nat → Act → World → Prop} {Q' : Exit → Act → World → Prop} {a : Act} (h : Below W.heap.size W w1) (hB : B ≤ W.heap.size) (k : ∀ w', w' = w1 → K B row a w') :
    Q.EvQ (Q.Gr B row W) (Q.Goes K B row) Q' .normal a w1 := Q.ev_keep h hB (k w1 rfl)
theorem gwB {W0 w : World} {n1 b o : Nat} {v : Value} (hb : b < n1) (h : W0.cell? ⟨b, o, none⟩ = some v) (hB : Below n1 W0 w) : ∀ m : Q.GW w.drew n1 none, m.w.cell? ⟨b, o, none⟩ = some v := fun m =>
  (World.cell?_of_block (w := W0) (a := ⟨b, o, none⟩) ((m.h.block b hb (by simp)).trans (hB.block b hb))).trans h
theorem PI.over {w w1 : World} {ps qs : List (Option Addr × Nat × Nat)} {L : List (List Nat)} {B : Nat} {v : Value} (h : PI w ps L) (hr : kSl.R tSI w B (fun _ => True) v qs) (hg : w.grownBy w1 v.ownBlock) : PI w1 ps L := by
  cases ho : v.ownBlock with
  | none =>
    rw [ho] at hg
    exact h.below ⟨hg.os, hg.tape, hg.output, hg.size, fun k hk => hg.block k hk (by simp)⟩
  | some b =>
    rw [ho] at hg
    obtain ⟨inner, hown⟩ := Kd.R_own hr
    obtain ⟨cells, hc⟩ := own_typed hown b ho
    exact h.ty hc (by decide) hg
/-- rows of ints, in memory, in a row of one's own -/
def RI (base : Nat) (v : Value) (L : List (List Nat)) (w : World) : Prop := ∃ ps, kSl.R tSI w base (fun _ => True) v ps ∧ PI w ps L
theorem RI.below {base : Nat} {v : Value} {L : List (List Nat)} {w w1 : World} (h : RI base v L w) (hb : Below w.heap.size w w1) : RI base v L w1 := by
  obtain ⟨ps, h1, h2⟩ := h
  exact ⟨ps, Kd.R_below h1 hb, h2.below hb⟩
theorem RI.nil (base : Nat) (w : World) : RI base (.slice none 0 0) [] w := ⟨[], Kd.R_nil _ _ _ _ _, PI.nil _⟩
/-- as it is read -/
def WD (W4 : List Nat) (n : Nat) (v : Value) (w : World) : Prop := ∃ b off c, v = .slice (some ⟨b, off, none⟩) n c ∧ b < w.heap.size ∧ Ty w tSI (some ⟨b, off, none⟩) ∧ ∀ j, j < n → ∃ b2 o2 c2, b2 < w.heap.size ∧ Ty w tI (some ⟨b2, o2, none⟩) ∧ w.cell? ⟨b, off + j, none⟩ = some (.slice (some ⟨b2, o2, none⟩) 4 c2) ∧ ∀ k, k < 4 → w.cell? ⟨b2, o2 + k, none⟩ = some (.int .i64 (W4.getD (4 * j + k) 0 : Nat))
theorem WD.below {W4 : List Nat} {n : Nat} {v : Value} {w w1 : World} (h : WD W4 n v w) (hb : Below w.heap.size w w1) : WD W4 n v w1 := by
  obtain ⟨b, off, c, e, hlt, ht, h⟩ := h
  refine ⟨b, off, c, e, Nat.lt_of_lt_of_le hlt hb.size, ht.below hb, fun j hj => ?_⟩
  obtain ⟨b2, o2, c2, h2, ht2, h3, h4⟩ := h j hj
  exact ⟨b2, o2, c2, Nat.lt_of_lt_of_le h2 hb.size, ht2.below hb, (hb.cell (p := ⟨b, off + j, none⟩) hlt).trans h3, fun k hk => (hb.cell (p := ⟨b2, o2 + k, none⟩) h2).trans (h4 k hk)⟩
theorem WD.ty {W4 : List Nat} {n : Nat} {v : Value} {w w1 : World} (h : WD W4 n v w) {g : Nat} {t : TypeId} {cs : Array Value} {fr : Nat × Nat} (hg : w.heap[g]? = some (.cells cs t fr)) (n1 : tSI ≠ t) (n2 : tI ≠ t) (hgr : w.grownBy w1 (some g)) : WD W4 n v w1 := by
  obtain ⟨b, off, c, e, hlt, ht, h⟩ := h
  have k1 := grown_keep hgr ht hg n1 _ rfl
  refine ⟨b, off, c, e, Nat.lt_of_lt_of_le hlt hgr.size, ht.move (grown_keep hgr ht hg n1), fun j hj => ?_⟩
  obtain ⟨b2, o2, c2, h2, ht2, h3, h4⟩ := h j hj
  have k2 := grown_keep hgr ht2 hg n2 _ rfl
  exact ⟨b2, o2, c2, Nat.lt_of_lt_of_le h2 hgr.size, ht2.move (grown_keep hgr ht2 hg n2), (World.cell?_of_block (w := w) (a := ⟨b, off + j, none⟩) k1).trans h3, fun k hk => (World.cell?_of_block (w := w) (a := ⟨b2, o2 + k, none⟩) k2).trans (h4 k hk)⟩
theorem RI.read {base n : Nat} {v : Value} {L : List (List Nat)} {w : World} {key : List Nat} (h : RI base v L w) (hw : WR key n L) (hk : key.length = 16) : WD (WS key n) (n + 4) v w := by
  obtain ⟨ps, h1, h2⟩ := h
  obtain ⟨A, c, rfl, hc, hC⟩ := Kd.R_reads h1
  have hTy : Ty w tSI A := by
    obtain ⟨inner, hown⟩ := Kd.R_own h1
    exact Ty_own hown
  have hl := hw.count hk
  have hpl : ps.length = n + 4 := h2.1.trans hl
  rw [hpl] at hC ⊢
  obtain ⟨ad, e, hcell⟩ := hC.2.2 (by omega)
  subst e
  obtain ⟨b, off, spot⟩ := ad
  have hget : ∀ j, j < n + 4 → w.cell? ((⟨b, off, spot⟩ : Addr).add j) = some (.slice (ps.getD j (none, 0, 0)).1 (ps.getD j (none, 0, 0)).2.1 (ps.getD j (none, 0, 0)).2.2) := fun j hj => by
    obtain ⟨cs, _, hk1, hk2⟩ := hcell j (ps.getD j (none, 0, 0)) (by rw [List.getD_eq_getElem?_getD, List.getElem?_eq_getElem (show j < ps.length by omega)]; rfl)
    have := hk2 0 (.slice (ps.getD j (none, 0, 0)).1 (ps.getD j (none, 0, 0)).2.1 (ps.getD j (none, 0, 0)).2.2) (by rw [show cs = [_] from hk1]; rfl)
    simpa [show kSl.sz = 1 from rfl] using this
  have hs : spot = none := by
    have := World.cell?_spot (hget 0 (by omega))
    simpa [Addr.add] using this
  subst hs
  have hg0 := hget 0 (by omega)
  rw [add_at] at hg0
  refine ⟨b, off, c, rfl, World.block_lt_of_cell? w _ hg0, hTy, fun j hj => ?_⟩
  have hgj := hget j hj
  rw [add_at] at hgj
  obtain ⟨q1, q2, _, _, q5⟩ := h2.2 j (by omega)
  have h4 : (L.getD j []).length = 4 := hw.four _ (by rw [List.getD_eq_getElem?_getD, List.getElem?_eq_getElem (show j < L.length by omega)]; exact List.getElem_mem _)
  rw [q1, h4] at hgj
  rw [h4, ← h4] at q2
  obtain ⟨b2, o2, e2, hb2, hc2⟩ := B_at q2 (by omega)
  rw [e2] at hgj q5
  refine ⟨b2, o2, _, hb2, q5, hgj, fun k hk4 => ?_⟩
  rw [hc2 k (by omega), hw.get hk hj hk4]
/-- one row more -/
theorem RI.snoc {base : Nat} {v : Value} {L : List (List Nat)} {w : World} (h : RI base v L w) : ∃ ps, kSl.R tSI w base (fun _ => True) v ps ∧ PI w ps L ∧ ps.length = L.length := by
  obtain ⟨ps, h1, h2⟩ := h
  exact ⟨ps, h1, h2, h2.1⟩
def row4 (key : List Nat) (i : Nat) : List Nat := [key.getD (4 * i) 0, key.getD (4 * i + 1) 0, key.getD (4 * i + 2) 0, key.getD (4 * i + 3) 0]
def rows4 (key : List Nat) (n : Nat) : List (List Nat) := (List.range n).map (row4 key)
theorem rows4_succ (key : List Nat) (n : Nat) : rows4 key (n + 1) = rows4 key n ++ [row4 key n] := by simp [rows4, List.range_succ]
theorem rows4_len (key : List Nat) (n : Nat) : (rows4 key n).length = n := by simp [rows4]
theorem row4_lt {key : List Nat} (h : ∀ x ∈ key, x < 256) (i : Nat) : ∀ x ∈ row4 key i, x < 256 := fun x hx => by
  have g : ∀ j, key.getD j 0 < 256 := fun j => getD_lt0 (by decide) j h
  simp only [row4, List.mem_cons, List.not_mem_nil, or_false] at hx
  rcases hx with e | e | e | e <;> rw [e] <;> exact g _
theorem rows4_WR {key : List Nat} (h : key.length = 16) : WR key 0 (rows4 key 4) := by
  refine ⟨fun r hr => ?_, ?_⟩
  · obtain ⟨i, _, rfl⟩ := List.mem_map.1 hr
    rfl
  · rw [WS]
    refine List.ext_getElem (by rw [h]; rfl) (fun j h1 h2 => ?_)
    have e : (rows4 key 4).flatten = (List.range 16).map (fun j => key.getD j 0) := rfl
    simp [e, List.getD_eq_getElem?_getD, List.getElem?_eq_getElem h2]
theorem getD_i (l : List Nat) (i : Nat) (h : ∀ x ∈ l, x < 256) : (l.getD i 0 : Int) < 256 := by
  have := getD_lt0 (by decide) i h
  omega
/-- what an array in memory holds, as a row -/
theorem ab_row {k : IntKind} {t : TypeId} {b : Nat} {l : List Nat} {w : World} (h : AB k t b l w) (hl : l.length ≤ maxLen) : (Kd.int k).C w (some ⟨b, 0, none⟩) l.length (nat l) := by
  have h1 := R_of_blk (w := w) (b := b) (B := 0) (k := k) (e := t) (l := nat l) (by
    rw [show (List.map (Value.int k) (nat l)).toArray = arr k l from by simp [arr, nat]]
    exact h) (Nat.zero_le _) (by rw [nat_length]; exact hl)
  have := (Kd.R_reads' h1).2.2
  rwa [nat_length] at this
theorem ab_ty {k : IntKind} {t : TypeId} {b : Nat} {l : List Nat} {w : World} (h : AB k t b l w) : Ty w t (some ⟨b, 0, none⟩) := fun ad ha => by
  injection ha with ha
  subst ha
  exact ⟨_, _, h⟩
theorem tmpW_plain (W : List Nat) {n k : Nat} (hm : ¬ n % 4 = 0) (hk : k < 4) : (tmpW W (n + 4)).getD k 0 = W.getD (4 * (n + 3) + k) 0 := by
  unfold tmpW
  rw [if_neg (by omega), show n + 4 - 1 = n + 3 from by omega]
  rcases (show k = 0 ∨ k = 1 ∨ k = 2 ∨ k = 3 from by omega) with h | h | h | h <;> subst h <;> rfl
theorem lit_i {W w : World} {y : Int} {e : TypeId} (h : W = w.alloc (.cells #[.int .i64 y] e)) : (Kd.int .i64).C W (some ⟨w.heap.size, 0, none⟩) 1 [y] := by
  have hg : W.heap[w.heap.size]? = some (.cells #[.int .i64 y] e (0, 0)) := h ▸ heap_alloc_new w _
  have hR := R_of_blk (k := .i64) (l := [y]) (B := 0) (by simpa using hg) (Nat.zero_le _) (show 1 ≤ maxLen from by decide)
  exact (Kd.R_reads' hR).2.2
theorem lit_s {W w : World} {A : Option Addr} {n c : Nat} {e : TypeId} (h : W = w.alloc (.cells #[.slice A n c] e)) : kSl.C W (some ⟨w.heap.size, 0, none⟩) 1 [(A, n, c)] := by
  have hg : W.heap[w.heap.size]? = some (.cells #[.slice A n c] e (0, 0)) := h ▸ heap_alloc_new w _
  have hR : kSl.R e W 0 (fun _ => True) (.slice (some ⟨w.heap.size, 0, none⟩) 1 1) [(A, n, c)] := Kd.R_of_own (enc := fun p : Option Addr × Nat × Nat => Value.slice p.1 p.2.1 p.2.2) ⟨by simp [encs], .inr ⟨w.heap.size, 1, _, rfl, Nat.zero_le _, hg, Nat.le_refl _, by decide, by simp, by simp [encs]⟩⟩ (fun _ _ => trivial)
  exact (Kd.R_reads' hR).2.2
set_option maxRecDepth 100000 in
set_option maxHeartbeats 6400000 in
theorem refwords_any (key : List Nat) (A A2 : Option Addr) (c c2 : Nat) (w : World) (hC : (Kd.int .u8).C w A 16 (nat key)) (hk : key.length = 16) (hk8 : ∀ x ∈ key, x < 256) (hC2 : (Kd.int .i64).C w A2 256 (nat boxT)) :
    Calls Try.prog 20 #[.slice A 16 c, .slice A2 256 c2] w fun e w' => ∃ v, e = .returned v ∧ WD (WK key) 44 v w' ∧ Below w.heap.size w w' := by
  have HK := Lib.hid (show key.length = 16 ∧ ∀ x ∈ key, x < 256 from ⟨hk, hk8⟩)
  rw [← hk] at hC
  obtain ⟨b1, o1, rfl, hb1, hc1⟩ := B_at hC (by omega)
  rw [← boxT_len] at hC2
  obtain ⟨b2, o2, rfl, hb2, hc2⟩ := B_at hC2 (by rw [boxT_len]; decide)
  rw [boxT_len] at hc2
  have HC1 := Lib.hid hc1
  have HC2 := Lib.hid hc2
  have HLt := Lib.hid (show b1 < w.heap.size ∧ b2 < w.heap.size from ⟨hb1, hb2⟩)
  clear hC hC2 hc1 hc2 hb1 hb2 hk hk8
  go_enter Try.func20, Try.ntmps20
  go_wp2_with fail
  go_loopg [5, 6] 6 (fun g v5 v6 w' => ∃ i : Nat, v6 = .int .i64 (i : Int) ∧ Hid (i ≤ 4 ∧ 4 < g + i) ∧ Hid (RI w.heap.size v5 (rows4 key i) w') ∧ Hid (Below w.heap.size w w'))
  case atStart => exact ⟨0, rfl, Lib.hid ⟨by omega, by omega⟩, Lib.hid (RI.nil _ _), Lib.hid (Below.refl _ _)⟩
  case round =>
    obtain ⟨i, rfl, HJ, HR, HB⟩ := hrel
    cases gk with
    | zero => have := HJ.out; omega
    | succ g1 =>
      by_cases hi : i < 4
      · have HJ' := Lib.hid (show i < 4 ∧ 4 < (g1 + 1) + i from ⟨hi, HJ.out.2⟩)
        have z0 : (i : Int) < 4 := by omega
        have z1 : (0 : Int) ≤ (i : Int) := by omega
        have z2 : 4 * (i : Int) + 3 < 16 := by omega
        have z3 : (4 * (i : Int)).toNat = 4 * i := by omega
        have z4 : (4 * (i : Int) + 1).toNat = 4 * i + 1 := by omega
        have z5 : (4 * (i : Int) + 2).toNat = 4 * i + 2 := by omega
        have z6 : (4 * (i : Int) + 3).toNat = 4 * i + 3 := by omega
        have e0 : 4 * (i : Int) < 16 := by omega
        have e1 : 4 * (i : Int) + 1 < 16 := by omega
        have e2 : 4 * (i : Int) + 2 < 16 := by omega
        have f0 : (0 : Int) ≤ 4 * (i : Int) := by omega
        have f1 : (0 : Int) ≤ 4 * (i : Int) + 1 := by omega
        have f2 : (0 : Int) ≤ 4 * (i : Int) + 2 := by omega
        have f3 : (0 : Int) ≤ 4 * (i : Int) + 3 := by omega
        have q0 := gwB HLt.out.1 (HC1.out (4 * i) (by have := HK.out.1; omega)) HB.out
        have q1 := gwB HLt.out.1 (HC1.out (4 * i + 1) (by have := HK.out.1; omega)) HB.out
        have q2 := gwB HLt.out.1 (HC1.out (4 * i + 2) (by have := HK.out.1; omega)) HB.out
        have q3 := gwB HLt.out.1 (HC1.out (4 * i + 3) (by have := HK.out.1; omega)) HB.out
        have p0 := getD_i key (4 * i) HK.out.2
        have p1 := getD_i key (4 * i + 1) HK.out.2
        have p2 := getD_i key (4 * i + 2) HK.out.2
        have p3 := getD_i key (4 * i + 3) HK.out.2
        have HG := Lib.hid (show row4 key i = [key.getD (4 * i) 0, key.getD (4 * i + 1) 0, key.getD (4 * i + 2) 0, key.getD (4 * i + 3) 0] from rfl)
        generalize key.getD (4 * i) 0 = k0 at *
        generalize key.getD (4 * i + 1) 0 = k1 at *
        generalize key.getD (4 * i + 2) 0 = k2 at *
        generalize key.getD (4 * i + 3) 0 = k3 at *
        clear hi HJ
        go_wp2_with fail
        refine Q.wp_region_segsB w.heap.size none [([0, 1, 2, 3, 4, 5, 6, 7, 8, 9, 10, 11, 12, 13, 14, 15, 16, 17, 18, 19, 20, 21, 22, 23, 24, 25, 26, 27], some 28), ([], some 29), ([], some 30), ([31], none)] (by kernel_rfl) (by kernel_rfl) (by kernel_rfl) (by kernel_rfl) ?_
        dsimp only [Q.wpSegs, Q.picks, Q.pick]
        repeat (go_big_quiet_step (fail))
        refine wpQuiet_nil ?_
        clear q0 q1 q2 q3
        go_wp2_with fail
        refine ev_keepN ((Below.refl _ _).alloc (Nat.le_refl _) _) HB.out.size fun W1 hW1 => ?_
        have HR1 := Lib.hid ((HR.out.below (stay0 wr)).below (show Below wr.drew.heap.size wr.drew W1 from by rw [hW1]; exact (Below.refl _ _).alloc (Nat.le_refl _) _))
        have HA1 := Lib.hid (show AB .i64 tI wr.heap.size (row4 key i) W1 from by rw [hW1, HG.out]; exact AB.mk wr.drew .i64 tI [k0, k1, k2, k3])
        have HB1 := Lib.hid (show Below w.heap.size w W1 from by rw [hW1]; exact HB.out.drew.alloc HB.out.size _)
        clear hW1
        first | refine wpQuiet_nil ?_ | skip
        go_wp2_with fail
        refine ev_keepN ((Below.refl _ _).alloc (Nat.le_refl _) _) HB1.out.size fun W2 hW2 => ?_
        have HLs := Lib.hid (lit_s hW2)
        have hbw : Below W1.heap.size W1 W2 := by rw [hW2]; exact (Below.refl _ _).alloc (Nat.le_refl _) _
        obtain ⟨ps, hp1, hp2, hp3⟩ := (HR1.out.below hbw).snoc
        have HP1 := Lib.hid hp1
        have HP2 := Lib.hid hp2
        have HPl := Lib.hid (show ps.length = i from by rw [hp3]; exact rows4_len _ _)
        have HB2 := Lib.hid (HB1.out.trans (hbw.mono HB1.out.size))
        have HA2 := Lib.hid (HA1.out.below HA1.out.lt hbw)
        clear hp1 hp2 hp3 hbw hW2
        first | refine wpQuiet_nil ?_ | skip
        go_wp2_with (at_builtin; refine Kd.R_append_row (fun p : Option Addr × Nat × Nat => Value.slice p.1 p.2.1 p.2.2) (none, 0, 0) (w0 := w) w.heap.size rfl (.tmp 16) (.tmp 45) tSS tSI (.slice none 0 0) 24 rfl Try.underlying39 info_si rfl (by decide) u5 ps [(some ⟨wr.heap.size, 0, none⟩, 4, 4)] _ 1 1 (fun _ => True) rfl rfl (fun _ _ => trivial) HP1.out HLs.out HB2.out HB2.out.size (by have := HPl.out; have := HJ'.out; omega) ?_; intro v8 w8 hr8 hb8 hg8 _; (have HR8 := Lib.hid hr8); (have HB8 := Lib.hid hb8); (have HG8 := Lib.hid hg8); clear hr8 hb8 hg8)
        refine Q.ev_app (gr_own HG8.out (fun k hk => Kd.R_base HP1.out k hk) HB2.out.size) (Nat.le_refl _) (Q.NewRow.self _ _) ?_
        repeat (go_big_quiet_step (fail))
        refine wpQuiet_nil ?_
        refine NoPanic.normal ?_
        have HP8 := Lib.hid (show RI w.heap.size v8 (rows4 key (i + 1)) w8 from by
          rw [rows4_succ]
          have h := (HP2.out.snoc (A := some ⟨wr.heap.size, 0, none⟩) (c := 4) (l := row4 key i) (ab_row HA2.out (by show 4 ≤ maxLen; decide)) (row4_lt HK.out.2 i) (Nat.le_refl _) (ab_ty HA2.out)).over HP1.out HG8.out
          exact ⟨_, HR8.out, h⟩)
        go_wp2_with fail
        go_roundg g1
        case measure => have := HJ'.out; omega
        case rel => exact ⟨i + 1, by go_num, Lib.hid (by have := HJ'.out; omega), HP8, HB8⟩
      · obtain rfl : i = 4 := by have := HJ.out; omega
        clear hi HJ
        have HR0 := HR
        have HW0 := Lib.hid (rows4_WR HK.out.1)
        clear HR
        go_wp2_with fail
        go_loopg [5, 7, 8] 42 (fun g v5 v7 v8 w' => ∃ (n : Nat) (L : List (List Nat)), v7 = .int .i64 (pw ((n + 3) / 4) : Nat) ∧ v8 = .int .i64 ((n : Int) + 4) ∧ Hid (n ≤ 40 ∧ 40 < g + n) ∧ Hid (RI w.heap.size v5 L w') ∧ Hid (WR key n L) ∧ Hid (Below w.heap.size w w'))
        case atStart => exact ⟨0, rows4 key 4, rfl, rfl, Lib.hid ⟨by omega, by omega⟩, HR0, HW0, HB⟩
        case round =>
          obtain ⟨n, L, rfl, rfl, HJ, HR, HWR, HBn⟩ := hrel
          clear HR0 HB HW0
          cases gk with
          | zero => have := HJ.out; omega
          | succ g1 =>
            by_cases hn : n < 40
            · have HJ' := Lib.hid (show n < 40 ∧ 40 < (g1 + 1) + n from ⟨hn, HJ.out.2⟩)
              obtain ⟨b5, o5, c5, hv5, hb5, _, hat5⟩ := HR.out.read HWR.out HK.out.1
              obtain ⟨b3, o3, c3, hb3, _, hce3, hk3⟩ := hat5 (n + 3) (by omega)
              obtain ⟨b4, o4, c4, hb4, _, hce4, hk4⟩ := hat5 n (by omega)
              have HC4w := Lib.hid hk4
              have HCE4w := Lib.hid hce4
              have HN4w := Lib.hid (show b4 < wr.heap.size ∧ b5 < wr.heap.size from ⟨hb4, hb5⟩)
              subst hv5
              have HC3 := Lib.hid hk3
              have HN3 := Lib.hid hb3
              obtain ⟨lw, hlw⟩ : ∃ y, n + 4 = y := ⟨_, rfl⟩
              rw [hlw] at HR ⊢
              have x0 : (n : Int) + 3 < (lw : Int) := by omega
              have x1 : (0 : Int) ≤ (n : Int) + 3 := by omega
              have x2 : ((n : Int) + 3).toNat = n + 3 := by omega
              have x3 : (n : Int) + 4 < 44 := by omega
              have x4 : (0 : Int) ≤ (n : Int) := by omega
              have x5 : ¬ (n : Int) < 0 := by omega
              have Hlw := Lib.hid hlw
              clear hk3 hb3 hb5 hat5 hk4 hb4 hce4 hn HJ hlw
              obtain ⟨pp, hpp⟩ : ∃ y, pw ((n + 3) / 4) = y := ⟨_, rfl⟩
              rw [hpp]
              by_cases hm : n % 4 = 0
              · have m1 : (n : Int) % 4 = 0 := by omega
                have m2 : ((n : Int) + 4) % 4 = 0 := by omega
                have m3 : ((n : Int) + 4).tmod 4 = 0 := by rw [Int.tmod_eq_emod_of_nonneg (by omega)]; omega
                have p8 : pp < 256 := by rw [← hpp]; exact pw_lt _
                have HPP := Lib.hid (show pw (((n + 1) + 3) / 4) = rmul pp 2 from by rw [rmul_two _ p8, ← hpp, show ((n + 1) + 3) / 4 = (n + 3) / 4 + 1 from by omega, pw])
                have Hpp := Lib.hid hpp
                have HMu := Lib.hid (fun W => mul_any pp 2 W p8 (by decide))
                have g8 : ∀ j, (WS key n).getD j 0 < 256 := fun j => getD_lt0 (by decide) j (WS_lt HK.out.2 n)
                have G8 := Lib.hid g8
                have q0 := gw HN3.out (HC3.out 0 (by decide))
                have q1 := gw HN3.out (HC3.out 1 (by decide))
                have q2 := gw HN3.out (HC3.out 2 (by decide))
                have q3 := gw HN3.out (HC3.out 3 (by decide))
                obtain ⟨l0, hl0⟩ : ∃ y, (WS key n).getD (4 * (n + 3)) 0 = y := ⟨_, rfl⟩
                obtain ⟨l1, hl1⟩ : ∃ y, (WS key n).getD (4 * (n + 3) + 1) 0 = y := ⟨_, rfl⟩
                obtain ⟨l2, hl2⟩ : ∃ y, (WS key n).getD (4 * (n + 3) + 2) 0 = y := ⟨_, rfl⟩
                obtain ⟨l3, hl3⟩ : ∃ y, (WS key n).getD (4 * (n + 3) + 3) 0 = y := ⟨_, rfl⟩
                have HT := Lib.hid (show tmpW (WS key n) (n + 4) = [bxv l1 ^^^ pp, bxv l2, bxv l3, bxv l0] from by
                  unfold tmpW
                  rw [if_pos (by omega), show n + 4 - 1 = n + 3 from by omega, hl0, hl1, hl2, hl3, hpp])
                have t0 : (l0 : Int) < 256 := by have := G8.out (4 * (n + 3)); omega
                have t1 : (l1 : Int) < 256 := by have := G8.out (4 * (n + 3) + 1); omega
                have t2 : (l2 : Int) < 256 := by have := G8.out (4 * (n + 3) + 2); omega
                have t3 : (l3 : Int) < 256 := by have := G8.out (4 * (n + 3) + 3); omega
                rw [Nat.add_zero, Nat.add_zero, hl0] at q0
                rw [hl1] at q1
                rw [hl2] at q2
                rw [hl3] at q3
                have hbx := fun j (hj : j < 256) => gw (w := wr) (Nat.lt_of_lt_of_le HLt.out.2 HBn.out.size) ((HBn.out.cell (p := ⟨b2, o2 + j, none⟩) HLt.out.2).trans (HC2.out j hj))
                have r0 := hbx l0 (by omega)
                have r1 := hbx l1 (by omega)
                have r2 := hbx l2 (by omega)
                have r3 := hbx l3 (by omega)
                have xx := xor_i64 (bxv l1) pp (by have := bxv_lt l1; omega) (by omega)
                rw [show boxT.getD l0 0 = bxv l0 from rfl] at r0
                rw [show boxT.getD l1 0 = bxv l1 from rfl] at r1
                rw [show boxT.getD l2 0 = bxv l2 from rfl] at r2
                rw [show boxT.getD l3 0 = bxv l3 from rfl] at r3
                generalize bxv l0 = d0 at *
                generalize bxv l1 = d1 at *
                generalize bxv l2 = d2 at *
                generalize bxv l3 = d3 at *
                have HXx := Lib.hid xx
                have y0 : (0 : Int) ≤ (pp : Int) := by omega
                have y1 : (pp : Int) < 256 := by omega
                clear hl0 hl1 hl2 hl3 hbx g8 hpp hm p8
                generalize d1 ^^^ pp = dx at *
                go_wp2_with fail
                refine Q.wp_region_segs none [([0, 1, 2, 3, 4, 5, 6, 7, 8, 9, 10, 11, 12, 13, 14, 15, 16, 17, 18, 19, 20, 21, 22, 23, 24, 25], some 26), ([27], none)] (by kernel_rfl) (by kernel_rfl) (by kernel_rfl) (by kernel_rfl) ?_
                dsimp only [Q.wpSegs, Q.picks, Q.pick]
                repeat (go_big_quiet_step (fail))
                refine wpQuiet_nil ?_
                clear q0 q1 q2 q3 r0 r1 r2 r3
                go_wp2_with fail
                refine Q.ev_keep ((Below.refl _ _).alloc (Nat.le_refl _) _) (Nat.le_refl _) ?_
                repeat (go_big_quiet_step (fail))
                refine wpQuiet_nil ?_
                refine NoPanic.normal ?_
                refine exit_at fun Wb hWb => ?_
                have HA1 := Lib.hid (show AB .i64 tI wr.heap.size (tmpW (WS key n) (n + 4)) Wb from by rw [hWb, HT.out]; exact AB.mk wr.drew .i64 tI [dx, d2, d3, d0])
                have HWB := Lib.hid (show Below wr.heap.size wr Wb from by rw [hWb]; exact (stay0 wr).alloc (Nat.le_refl _) _)
                have HBb := Lib.hid (HBn.out.trans (HWB.out.mono HBn.out.size))
                have HRb := Lib.hid (HR.out.below HWB.out)
                have HLb := Lib.hid HA1.out.lt
                have HLc := Lib.hid (fun k (hk : k < 4) => (show Wb.cell? ⟨wr.heap.size, 0 + k, none⟩ = some (.int .i64 ((tmpW (WS key n) (n + 4)).getD k 0 : Nat)) from by rw [Nat.zero_add]; exact HA1.out.cell (by rw [HT.out]; exact hk)))
                clear hWb
                go_wp2_with (go_at_call 36; refine (HMu.out _).mono ?_; rintro e w7 ⟨rfl, hw7⟩; (rw [hw7]); clear hw7 w7)
                have HC4 := Lib.hid (fun k (hk : k < 4) => (HWB.out.cell (p := ⟨b4, o4 + k, none⟩) HN4w.out.1).trans (HC4w.out k hk))
                have HCE4 := Lib.hid ((HWB.out.cell (p := ⟨b5, o5 + n, none⟩) HN4w.out.2).trans HCE4w.out)
                have HN4 := Lib.hid (show b4 < Wb.heap.size ∧ b5 < Wb.heap.size from ⟨Nat.lt_of_lt_of_le HN4w.out.1 HWB.out.size, Nat.lt_of_lt_of_le HN4w.out.2 HWB.out.size⟩)
                have x6 : (n : Int) < (lw : Int) := by have := Hlw.out; omega
                obtain ⟨n1, hn1⟩ : ∃ y, Wb.heap.size = y := ⟨_, rfl⟩
                have Hn1 := Lib.hid hn1
                clear hn1
                go_wp2_with fail
                go_loopg [10, 11] 6 (fun g v10 v11 w' => ∃ k : Nat, v11 = .int .i64 (k : Int) ∧ Hid (k ≤ 4 ∧ 4 < g + k) ∧ Hid ((Kd.int .i64).R tI w' n1 (fun _ => True) v10 (nat ((nxtW (WS key n) (n + 4)).take k))) ∧ Hid (Below n1 Wb w'))
                case atStart => exact ⟨0, rfl, Lib.hid ⟨by omega, by omega⟩, Lib.hid (Kd.R_nil _ _ _ _ _), Lib.hid (Below.refl _ _)⟩
                case round =>
                  obtain ⟨k, rfl, HI, HR10, HBk⟩ := hrel
                  cases gk with
                  | zero => have := HI.out; omega
                  | succ g2 =>
                    by_cases hk : k < 4
                    · have HI' := Lib.hid (show k < 4 ∧ 4 < (g2 + 1) + k from ⟨hk, HI.out.2⟩)
                      have y0 : (k : Int) < 4 := by omega
                      have y1 : (0 : Int) ≤ (k : Int) := by omega
                      have q1 := gwB (by rw [← Hn1.out]; exact HN4.out.2) HCE4.out HBk.out
                      obtain ⟨va, hva⟩ : ∃ y, (WS key n).getD (4 * n + k) 0 = y := ⟨_, rfl⟩
                      obtain ⟨vb, hvb⟩ : ∃ y, (tmpW (WS key n) (n + 4)).getD k 0 = y := ⟨_, rfl⟩
                      have q2 := gwB (by rw [← Hn1.out]; exact HN4.out.1) (HC4.out k hk) HBk.out
                      have q3 := gwB (by rw [← Hn1.out]; exact HLb.out) (HLc.out k hk) HBk.out
                      have a8 : va < 256 := by rw [← hva]; exact getD_lt0 (by decide) _ (WS_lt HK.out.2 n)
                      have b8 : vb < 256 := by rw [← hvb]; exact getD_lt0 (by decide) _ (tmpW_lt (WS_lt HK.out.2 n) _)
                      rw [hva] at q2
                      rw [hvb] at q3
                      try simp only [Nat.zero_add] at q3
                      have x1 := xor_i64 va vb (by omega) (by omega)
                      have hS := nat_snoc (l := nxtW (WS key n) (n + 4)) (j := k) (by rw [nxtW_len]; exact hk)
                      have hG : (nxtW (WS key n) (n + 4)).getD k 0 = va ^^^ vb := by rw [← hva, ← hvb]; exact nxtW_get _ n hk
                      rw [hG] at hS
                      have HS := Lib.hid hS
                      have HL := Lib.hid (show (nat ((nxtW (WS key n) (n + 4)).take k)).length = k from by rw [nat_length, List.length_take, nxtW_len]; omega)
                      have HB1 := Lib.hid (show n1 ≤ wr.heap.size from by have := HBk.out.size; have := Hn1.out; omega)
                      clear hva hvb a8 b8 hS hG hk HI
                      generalize va ^^^ vb = vx at *
                      generalize nat ((nxtW (WS key n) (n + 4)).take k) = xs at *
                      go_wp2_with fail
                      refine Q.wp_region_segsB n1 none [([0, 1, 2, 3, 4, 5, 6, 7, 8, 9, 10, 11, 12, 13], some 14), ([], some 15), ([16], none)] (by kernel_rfl) (by kernel_rfl) (by kernel_rfl) (by kernel_rfl) ?_
                      dsimp only [Q.wpSegs, Q.picks, Q.pick]
                      repeat (go_big_quiet_step (fail))
                      refine wpQuiet_nil ?_
                      clear q1 q2 q3
                      go_wp2_with fail
                      refine ev_keepN ((Below.refl _ _).alloc (Nat.le_refl _) _) HB1.out fun W2 hW2 => ?_
                      have HLi := Lib.hid (lit_i (w := wr.drew) hW2)
                      have hbw : Below wr.heap.size wr W2 := by rw [hW2]; exact (stay0 wr).alloc (Nat.le_refl _) _
                      have HR10d := Lib.hid (Kd.R_below HR10.out hbw)
                      have HBkd := Lib.hid (HBk.out.trans (hbw.mono HB1.out))
                      have HB2 := Lib.hid (show n1 ≤ W2.heap.size from Nat.le_trans HB1.out hbw.size)
                      clear hW2 hbw
                      first | refine wpQuiet_nil ?_ | skip
                      go_wp2_with (at_builtin; refine appn (w0 := Wb) .i64 n1 (.tmp 92) (.tmp 106) tSI tI 8 rfl rfl Try.underlying34 info_i (by decide) u10 xs [(vx : Int)] _ 1 1 rfl rfl HR10d.out HLi.out HBkd.out HB2.out (by have := HL.out; have := HI'.out; omega) ?_; intro v8 w8 hr8 hb8 hg8; (have HR8 := Lib.hid hr8); (have HB8 := Lib.hid hb8); (have HG8 := Lib.hid hg8); clear hr8 hb8 hg8)
                      refine Q.ev_app (gr_own HG8.out (fun k hk => Kd.R_base HR10d.out k hk) HB2.out) (Nat.le_refl _) (Q.NewRow.self _ _) ?_
                      repeat (go_big_quiet_step (fail))
                      refine wpQuiet_nil ?_
                      refine NoPanic.normal ?_
                      go_wp2_with fail
                      go_roundg g2
                      case measure => have := HI'.out; omega
                      case rel => exact ⟨k + 1, by go_num, Lib.hid (by have := HI'.out; omega), Lib.hid (by rw [← HS.out]; exact HR8.out), HB8⟩
                    · obtain rfl : k = 4 := by have := HI.out; omega
                      clear hk HI
                      have hr := HR10.out
                      rw [List.take_of_length_le (by rw [nxtW_len]; exact Nat.le_refl _)] at hr
                      obtain ⟨A10, c10, hv10, hc10, hC10⟩ := Kd.R_reads hr
                      rw [nat_length, nxtW_len] at hv10 hc10 hC10
                      have hT10 := Ty_R (A := A10) (by rw [← hv10]; exact hr)
                      have HC10 := Lib.hid (show (Kd.int .i64).C wr A10 (nxtW (WS key n) (n + 4)).length (nat (nxtW (WS key n) (n + 4))) from by rw [nxtW_len]; exact hC10)
                      have HT10 := Lib.hid hT10
                      have Hc10 := Lib.hid hc10
                      have HWb := Lib.hid (show Below Wb.heap.size Wb wr from by rw [Hn1.out]; exact HBk.out)
                      have HRr := Lib.hid (HRb.out.below HWb.out)
                      have HBr := Lib.hid (HBb.out.trans (HWb.out.mono HBb.out.size))
                      subst hv10
                      clear hr hC10 hT10 hc10
                      obtain ⟨ps, hp1, hp2, hp3⟩ := HRr.out.snoc
                      have HP1 := Lib.hid hp1
                      have HP2 := Lib.hid hp2
                      have HPl := Lib.hid (show ps.length = n + 4 from by rw [hp3]; exact HWR.out.count HK.out.1)
                      clear hp1 hp2 hp3
                      go_wp2_with (at_builtin; refine Kd.R_append kSl (w0 := w) w.heap.size rfl (.tmp 108) (.tmp 110) tSS tSI (.slice none 0 0) 24 rfl Try.underlying39 info_si rfl (by decide) (by decide) _ ps (A10, 4, c10) [.slice A10 4 c10] (fun _ => True) (fun _ => False) rfl rfl rfl (fun _ h => h.elim) (fun _ _ => trivial) HP1.out HBr.out HBr.out.size (by have := HPl.out; have := HJ'.out; omega) ?_; intro v8 w8 hr8 hb8 hg8 _; (have HR8 := Lib.hid hr8); (have HB8 := Lib.hid hb8); (have HG8 := Lib.hid hg8); clear hr8 hb8 hg8)
                      have HP8 := Lib.hid (show RI w.heap.size v8 (L ++ [nxtW (WS key n) (n + 4)]) w8 from by
                        have h := (HP2.out.snoc HC10.out (nxtW_lt (WS_lt HK.out.2 n) _) (by rw [nxtW_len]; exact Hc10.out) HT10.out).over HP1.out HG8.out
                        rw [nxtW_len] at h
                        exact ⟨_, HR8.out, h⟩)
                      go_roundg g1
                      case measure => have := HJ'.out; omega
                      case rel => exact ⟨n + 1, _, by rw [HPP.out], by go_num, Lib.hid (by have := HJ'.out; omega), HP8, Lib.hid HWR.out.step, HB8⟩
              · obtain ⟨m, hmm⟩ : ∃ m, n % 4 = m := ⟨_, rfl⟩
                have m0 : ((m : Int) != 0) = true := bne_iff_ne.2 (by omega)
                have m0e : ((m : Int) == 0) = false := beq_eq_false_iff_ne.2 (by omega)
                have m1 : (n : Int) % 4 = (m : Int) := by omega
                have m2 : ((n : Int) + 4) % 4 = (m : Int) := by omega
                have m3 : ((n : Int) + 4).tmod 4 = (m : Int) := by rw [Int.tmod_eq_emod_of_nonneg (by omega)]; omega
                have HPP := Lib.hid (show pw (((n + 1) + 3) / 4) = pp from by rw [← hpp, show ((n + 1) + 3) / 4 = (n + 3) / 4 from by omega])
                have HLc := Lib.hid (fun k (hk : k < 4) => (show wr.cell? ⟨b3, o3 + k, none⟩ = some (.int .i64 ((tmpW (WS key n) (n + 4)).getD k 0 : Nat)) from by rw [tmpW_plain _ hm hk]; exact HC3.out k hk))
                have HLb := HN3
                have HBb := HBn
                have HRb := HR
                clear hpp hmm hm
                go_wp2_with fail
                obtain ⟨Wb, hWb⟩ : ∃ W, W = wr := ⟨_, rfl⟩
                rw [← hWb] at HLc HLb HBb HRb ⊢
                have HWB := Lib.hid (show Below wr.heap.size wr Wb from by rw [hWb]; exact Below.refl _ _)
                clear hWb
                have HC4 := Lib.hid (fun k (hk : k < 4) => (HWB.out.cell (p := ⟨b4, o4 + k, none⟩) HN4w.out.1).trans (HC4w.out k hk))
                have HCE4 := Lib.hid ((HWB.out.cell (p := ⟨b5, o5 + n, none⟩) HN4w.out.2).trans HCE4w.out)
                have HN4 := Lib.hid (show b4 < Wb.heap.size ∧ b5 < Wb.heap.size from ⟨Nat.lt_of_lt_of_le HN4w.out.1 HWB.out.size, Nat.lt_of_lt_of_le HN4w.out.2 HWB.out.size⟩)
                have x6 : (n : Int) < (lw : Int) := by have := Hlw.out; omega
                obtain ⟨n1, hn1⟩ : ∃ y, Wb.heap.size = y := ⟨_, rfl⟩
                have Hn1 := Lib.hid hn1
                clear hn1
                go_wp2_with fail
                go_loopg [10, 11] 6 (fun g v10 v11 w' => ∃ k : Nat, v11 = .int .i64 (k : Int) ∧ Hid (k ≤ 4 ∧ 4 < g + k) ∧ Hid ((Kd.int .i64).R tI w' n1 (fun _ => True) v10 (nat ((nxtW (WS key n) (n + 4)).take k))) ∧ Hid (Below n1 Wb w'))
                case atStart => exact ⟨0, rfl, Lib.hid ⟨by omega, by omega⟩, Lib.hid (Kd.R_nil _ _ _ _ _), Lib.hid (Below.refl _ _)⟩
                case round =>
                  obtain ⟨k, rfl, HI, HR10, HBk⟩ := hrel
                  cases gk with
                  | zero => have := HI.out; omega
                  | succ g2 =>
                    by_cases hk : k < 4
                    · have HI' := Lib.hid (show k < 4 ∧ 4 < (g2 + 1) + k from ⟨hk, HI.out.2⟩)
                      have y0 : (k : Int) < 4 := by omega
                      have y1 : (0 : Int) ≤ (k : Int) := by omega
                      have q1 := gwB (by rw [← Hn1.out]; exact HN4.out.2) HCE4.out HBk.out
                      obtain ⟨va, hva⟩ : ∃ y, (WS key n).getD (4 * n + k) 0 = y := ⟨_, rfl⟩
                      obtain ⟨vb, hvb⟩ : ∃ y, (tmpW (WS key n) (n + 4)).getD k 0 = y := ⟨_, rfl⟩
                      have q2 := gwB (by rw [← Hn1.out]; exact HN4.out.1) (HC4.out k hk) HBk.out
                      have q3 := gwB (by rw [← Hn1.out]; exact HLb.out) (HLc.out k hk) HBk.out
                      have a8 : va < 256 := by rw [← hva]; exact getD_lt0 (by decide) _ (WS_lt HK.out.2 n)
                      have b8 : vb < 256 := by rw [← hvb]; exact getD_lt0 (by decide) _ (tmpW_lt (WS_lt HK.out.2 n) _)
                      rw [hva] at q2
                      rw [hvb] at q3
                      try simp only [Nat.zero_add] at q3
                      have x1 := xor_i64 va vb (by omega) (by omega)
                      have hS := nat_snoc (l := nxtW (WS key n) (n + 4)) (j := k) (by rw [nxtW_len]; exact hk)
                      have hG : (nxtW (WS key n) (n + 4)).getD k 0 = va ^^^ vb := by rw [← hva, ← hvb]; exact nxtW_get _ n hk
                      rw [hG] at hS
                      have HS := Lib.hid hS
                      have HL := Lib.hid (show (nat ((nxtW (WS key n) (n + 4)).take k)).length = k from by rw [nat_length, List.length_take, nxtW_len]; omega)
                      have HB1 := Lib.hid (show n1 ≤ wr.heap.size from by have := HBk.out.size; have := Hn1.out; omega)
                      clear hva hvb a8 b8 hS hG hk HI
                      generalize va ^^^ vb = vx at *
                      generalize nat ((nxtW (WS key n) (n + 4)).take k) = xs at *
                      go_wp2_with fail
                      refine Q.wp_region_segsB n1 none [([0, 1, 2, 3, 4, 5, 6, 7, 8, 9, 10, 11, 12, 13], some 14), ([], some 15), ([16], none)] (by kernel_rfl) (by kernel_rfl) (by kernel_rfl) (by kernel_rfl) ?_
                      dsimp only [Q.wpSegs, Q.picks, Q.pick]
                      repeat (go_big_quiet_step (fail))
                      refine wpQuiet_nil ?_
                      clear q1 q2 q3
                      go_wp2_with fail
                      refine ev_keepN ((Below.refl _ _).alloc (Nat.le_refl _) _) HB1.out fun W2 hW2 => ?_
                      have HLi := Lib.hid (lit_i (w := wr.drew) hW2)
                      have hbw : Below wr.heap.size wr W2 := by rw [hW2]; exact (stay0 wr).alloc (Nat.le_refl _) _
                      have HR10d := Lib.hid (Kd.R_below HR10.out hbw)
                      have HBkd := Lib.hid (HBk.out.trans (hbw.mono HB1.out))
                      have HB2 := Lib.hid (show n1 ≤ W2.heap.size from Nat.le_trans HB1.out hbw.size)
                      clear hW2 hbw
                      first | refine wpQuiet_nil ?_ | skip
                      go_wp2_with (at_builtin; refine appn (w0 := Wb) .i64 n1 (.tmp 92) (.tmp 106) tSI tI 8 rfl rfl Try.underlying34 info_i (by decide) u10 xs [(vx : Int)] _ 1 1 rfl rfl HR10d.out HLi.out HBkd.out HB2.out (by have := HL.out; have := HI'.out; omega) ?_; intro v8 w8 hr8 hb8 hg8; (have HR8 := Lib.hid hr8); (have HB8 := Lib.hid hb8); (have HG8 := Lib.hid hg8); clear hr8 hb8 hg8)
                      refine Q.ev_app (gr_own HG8.out (fun k hk => Kd.R_base HR10d.out k hk) HB2.out) (Nat.le_refl _) (Q.NewRow.self _ _) ?_
                      repeat (go_big_quiet_step (fail))
                      refine wpQuiet_nil ?_
                      refine NoPanic.normal ?_
                      go_wp2_with fail
                      go_roundg g2
                      case measure => have := HI'.out; omega
                      case rel => exact ⟨k + 1, by go_num, Lib.hid (by have := HI'.out; omega), Lib.hid (by rw [← HS.out]; exact HR8.out), HB8⟩
                    · obtain rfl : k = 4 := by have := HI.out; omega
                      clear hk HI
                      have hr := HR10.out
                      rw [List.take_of_length_le (by rw [nxtW_len]; exact Nat.le_refl _)] at hr
                      obtain ⟨A10, c10, hv10, hc10, hC10⟩ := Kd.R_reads hr
                      rw [nat_length, nxtW_len] at hv10 hc10 hC10
                      have hT10 := Ty_R (A := A10) (by rw [← hv10]; exact hr)
                      have HC10 := Lib.hid (show (Kd.int .i64).C wr A10 (nxtW (WS key n) (n + 4)).length (nat (nxtW (WS key n) (n + 4))) from by rw [nxtW_len]; exact hC10)
                      have HT10 := Lib.hid hT10
                      have Hc10 := Lib.hid hc10
                      have HWb := Lib.hid (show Below Wb.heap.size Wb wr from by rw [Hn1.out]; exact HBk.out)
                      have HRr := Lib.hid (HRb.out.below HWb.out)
                      have HBr := Lib.hid (HBb.out.trans (HWb.out.mono HBb.out.size))
                      subst hv10
                      clear hr hC10 hT10 hc10
                      obtain ⟨ps, hp1, hp2, hp3⟩ := HRr.out.snoc
                      have HP1 := Lib.hid hp1
                      have HP2 := Lib.hid hp2
                      have HPl := Lib.hid (show ps.length = n + 4 from by rw [hp3]; exact HWR.out.count HK.out.1)
                      clear hp1 hp2 hp3
                      go_wp2_with (at_builtin; refine Kd.R_append kSl (w0 := w) w.heap.size rfl (.tmp 108) (.tmp 110) tSS tSI (.slice none 0 0) 24 rfl Try.underlying39 info_si rfl (by decide) (by decide) _ ps (A10, 4, c10) [.slice A10 4 c10] (fun _ => True) (fun _ => False) rfl rfl rfl (fun _ h => h.elim) (fun _ _ => trivial) HP1.out HBr.out HBr.out.size (by have := HPl.out; have := HJ'.out; omega) ?_; intro v8 w8 hr8 hb8 hg8 _; (have HR8 := Lib.hid hr8); (have HB8 := Lib.hid hb8); (have HG8 := Lib.hid hg8); clear hr8 hb8 hg8)
                      have HP8 := Lib.hid (show RI w.heap.size v8 (L ++ [nxtW (WS key n) (n + 4)]) w8 from by
                        have h := (HP2.out.snoc HC10.out (nxtW_lt (WS_lt HK.out.2 n) _) (by rw [nxtW_len]; exact Hc10.out) HT10.out).over HP1.out HG8.out
                        rw [nxtW_len] at h
                        exact ⟨_, HR8.out, h⟩)
                      go_roundg g1
                      case measure => have := HJ'.out; omega
                      case rel => exact ⟨n + 1, _, by rw [HPP.out], by go_num, Lib.hid (by have := HJ'.out; omega), HP8, Lib.hid HWR.out.step, HB8⟩
            · obtain rfl : n = 40 := by have := HJ.out; omega
              clear hn HJ
              have HF := Lib.hid (HR.out.read HWR.out HK.out.1)
              go_wp2_with fail
              go_ret
              exact ⟨_, rfl, HF.out, HBn.out⟩
end Go.Proofs.Ytblnclooobggnaa.A
