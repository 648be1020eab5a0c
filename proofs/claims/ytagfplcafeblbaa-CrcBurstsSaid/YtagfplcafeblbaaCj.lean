/-
  crc: the law of bursts.
-/
import Derived.Test.YtagfplcafeblbaaCi
import Derived.Test.YtagfplcafeblbaaWInvWords
import Derived.Test.YtagfplcafeblbaaQf
namespace Go.Proofs.Ytagfplcafeblbaa.C
open Go.RowKit Go.Proofs.Ytagfplcafeblbaa.L Go.Proofs.YtagfplcafeblbaaW.PrintWords

theorem R_open {l : List Nat} {w : World} {B : Nat} {v : Value} (h : (Kd.int .u8).R 5 w B (fun _ => True) v (natB l)) (hn : 0 < l.length) : ∃ g cap, v = .slice (some ⟨g, 0, none⟩) l.length cap ∧ l.length ≤ cap ∧ B ≤ g := by
  have ho := Kd.own_of_R (enc := Value.int .u8) h
  obtain ⟨A, c, rfl, hc, _⟩ := Kd.R_reads h
  rw [natB_length] at *
  rcases ho.2 with ⟨h1, h2⟩ | ⟨g, cap, cur, h1, hB, _⟩
  · omega
  · injection h1 with h1 h3 h4
    exact ⟨g, c, by rw [h1], hc, hB⟩
theorem R_at {l : List Nat} {w : World} {B g n cap : Nat} (h : (Kd.int .u8).R 5 w B (fun _ => True) (.slice (some ⟨g, 0, none⟩) n cap) (natB l)) {j : Nat} (hj : j < l.length) :
    w.cell? ⟨g, j, none⟩ = some (.int .u8 ((l.getD j 0 : Nat) : Int)) ∧ w.frozen? ⟨g, j, none⟩ = false := by
  have hn := (Kd.R_reads' h).1
  rw [natB_length] at hn
  have := Kd.R_celln (enc := Value.int .u8) (0 : Int) h (j : Int) (by omega) (by omega)
  rw [Int.toNat_natCast] at this
  refine ⟨this.1.trans ?_, this.2⟩
  rw [← natB_get hj]
  simp [rdOf]
theorem R_wr {l : List Nat} {w : World} {B g n cap : Nat} (h : (Kd.int .u8).R 5 w B (fun _ => True) (.slice (some ⟨g, 0, none⟩) n cap) (natB l)) (j x : Nat) :
    (Kd.int .u8).R 5 (w.setCell ⟨g, j, none⟩ (.int .u8 ((x : Nat) : Int))) B (fun _ => True) (.slice (some ⟨g, 0, none⟩) n cap) (natB (l.set j x)) ∧ w.grownBy (w.setCell ⟨g, j, none⟩ (.int .u8 ((x : Nat) : Int))) (some g) := by
  have := Kd.R_putg (enc := Value.int .u8) h (j : Int) ((x : Nat) : Int)
  rw [Int.toNat_natCast] at this
  refine ⟨?_, this.2⟩
  have h1 := this.1
  rwa [show (natB l).set j ((x : Nat) : Int) = natB (l.set j x) from by simp [natB]] at h1

set_option maxHeartbeats 3200000 in
set_option maxRecDepth 100000 in
theorem bursts_nat (l : List Nat) (A : Option Addr) (c : Nat) (at' : Int) (y : Nat) (place : Int) (one : Nat) (w : World) (hC : (Kd.int .u8).C w A l.length (natB l)) (hc : l.length ≤ c) (hl : ∀ x ∈ l, x < 256) (hy : y < 4294967296) (ho : one < 256) :
    Calls Try.prog 8 #[.slice A l.length c, .int .i64 at', .int .u32 (y : Int), .int .i64 place, .int .u8 (one : Int)] w fun e w' => e = .returned (.bool true) ∧ Below w.heap.size w w' := by
  have HAl := Lib.hid (alive_any w)
  have hm0 := (B_open hC).1
  by_cases h1 : 3000 < l.length
  · have z1 : decide ((3000 : Int) < (l.length : Int)) = true := decide_eq_true (by omega)
    have z0 : (3000 : Int) < (l.length : Int) := by omega
    clear hC hl h1
    go_enter Try.func8, Try.ntmps8
    go_wp2_with fail
    refine HAl.out.mono ?_
    rintro e w1 ⟨rfl, hb⟩
    go_wp2_with fail
    go_ret
    exact ⟨rfl, hb⟩
  have z1 : decide ((3000 : Int) < (l.length : Int)) = false := decide_eq_false (by omega)
  have HC := Lib.hid hC
  have HL := Lib.hid hl
  have HO := Lib.hid ho
  have HY := Lib.hid hy
  have HM := Lib.hid (show l.length ≤ 3000 from by omega)
  clear hC hl HAl
  have s1 : IntKind.i64.wrap ((l.length : Int) - 4) = (l.length : Int) - 4 := IntWalk.i64_in _ (by omega)
  by_cases hP : 0 ≤ at' ∧ at' ≤ (l.length : Int) - 4
  · obtain ⟨m, rfl⟩ : ∃ m : Nat, at' = (m : Int) := ⟨at'.toNat, by omega⟩
    have y1 : decide ((0 : Int) ≤ (m : Int)) = true := decide_eq_true (by omega)
    have y2 : decide ((m : Int) ≤ (l.length : Int) - 4) = true := decide_eq_true hP.2
    have y3 : (0 : Int) ≤ (m : Int) := by omega
    have hm4 : m + 4 ≤ l.length := by omega
    have HM4 := Lib.hid hm4
    have HLaw := Lib.hid (burst_law (l := l) (at' := m) (y := y) hm4 hy)
    have HCs := Lib.hid (fun i hi => cs_lt (l := l) (x := le4 y) (at' := m) HL.out (le4_lt y) i (by rw [le4_length]; omega) (by omega : m + i ≤ l.length) : ∀ i, i ≤ 4 → ∀ x ∈ cs l (le4 y) m i, x < 256)
    go_enter Try.func8, Try.ntmps8
    go_wp2_with (at_builtin; refine appn (w0 := w) .u8 w.heap.size (.tmp 28) (.tmp 29) 22 5 1 rfl rfl Try.underlying22 S.info_u8 (by decide) _ [] (natB l) _ _ _ rfl rfl (R_empty (Nat.le_refl _) _ rfl) (Kd.C_alloc HC.out _) ((Below.refl _ _).alloc (Nat.le_refl _) _) (by simp) (by have := HM.out; simp; omega) ?_; intro v1 w2 ho2 hb2 _; (have HR2 := Lib.hid (show (Kd.int .u8).R 5 w2 w.heap.size (fun _ => True) v1 (natB l) from by simpa using ho2)); (have HB2 := Lib.hid hb2); clear ho2 hb2)
    obtain ⟨g, cap, rfl, hcap, hgB⟩ := R_open HR2.out (by omega)
    refine (bytes_any y w2 HY.out).mono ?_
    rintro e w3 ⟨rfl, hb3⟩
    have HR3 := Lib.hid (Kd.R_below HR2.out hb3)
    have HB3 := Lib.hid (HB2.out.trans (hb3.mono HB2.out.size))
    clear hb3 HR2 HB2
    go_wp2_with fail
    obtain ⟨X, hX⟩ : ∃ X, w3.heap.size = X := ⟨_, rfl⟩
    have hgX : g < X := hX ▸ Kd.R_lt HR3.out g rfl
    obtain ⟨w4, hw4⟩ : ∃ w4, w4 = w3.alloc (.cells ((natB (le4 y)).map (Value.int .u8)).toArray 62) := ⟨_, rfl⟩
    have hx4 : w4.heap[X]? = some (.cells ((natB (le4 y)).map (Value.int .u8)).toArray 62 (0, 0)) := hX ▸ hw4 ▸ heap_alloc_new w3 _
    have HX4 := Lib.hid hx4
    have HR4 := Lib.hid (show (Kd.int .u8).R 5 w4 w.heap.size (fun _ => True) (.slice (some ⟨g, 0, none⟩) l.length cap) (natB l) from hw4 ▸ Kd.R_below HR3.out ((Below.refl _ _).alloc (Nat.le_refl _) _))
    have HB4 := Lib.hid (show Below w.heap.size w w4 from hw4 ▸ HB3.out.alloc HB3.out.size _)
    refine (show Code.wp Try.prog _ _ _ (w3.alloc (.cells ((natB (le4 y)).map (Value.int .u8)).toArray 62)) from ?_)
    rw [← hw4]
    clear hw4 hx4 HR3 HB3
    rw [hX]
    have hs : ∀ i : Nat, i ≤ 4 → IntKind.i64.wrap ((m : Int) + (i : Int)) = ((m + i : Nat) : Int) := fun i hi => by
      rw [show ((m + i : Nat) : Int) = (m : Int) + (i : Int) from by omega]
      exact IntWalk.i64_in _ (by omega)
    have HSum := Lib.hid hs
    clear hs hX
    go_loopg [13] 5 (fun gk v13 w' => ∃ i : Nat, v13 = .int .i64 i ∧ Hid (i ≤ 4 ∧ 4 < gk + i) ∧ Hid ((Kd.int .u8).R 5 w' w.heap.size (fun _ => True) (.slice (some ⟨g, 0, none⟩) l.length cap) (natB (cs l (le4 y) m i))) ∧ Hid (Below w.heap.size w w') ∧ Hid (w'.heap[X]? = some (.cells ((natB (le4 y)).map (Value.int .u8)).toArray 62 (0, 0))))
    case atStart => exact ⟨0, rfl, Lib.hid ⟨by omega, by omega⟩, HR4, HB4, HX4⟩
    case round =>
      obtain ⟨i, rfl, HJ, HR, HB, HX⟩ := hrel
      cases gk with
      | zero => have := HJ.out; omega
      | succ k =>
        by_cases hlt : i < 4
        · have HJ' := Lib.hid (show i < 4 ∧ 4 < (k + 1) + i from ⟨hlt, HJ.out.2⟩)
          have hmi : m + i < (cs l (le4 y) m i).length := by rw [cs_length]; omega
          obtain ⟨k1, k2⟩ := R_at HR.out hmi
          have hx := getD_lt hmi (HCs.out i (by omega))
          have hz := getD_lt (show i < (le4 y).length from hlt) (le4_lt y)
          have k3 : wr.cell? ⟨X, i, none⟩ = some (.int .u8 (((le4 y).getD i 0 : Nat) : Int)) := by
            rw [blk_cell HX.out]
            rcases (by omega : i = 0 ∨ i = 1 ∨ i = 2 ∨ i = 3) with h | h | h | h <;> subst h <;> rfl
          have hXs : X < wr.heap.size := (Array.getElem?_eq_some_iff.1 HX.out).1
          have hcs : cs l (le4 y) m (i + 1) = (cs l (le4 y) m i).set (m + i) ((cs l (le4 y) m i).getD (m + i) 0 ^^^ (le4 y).getD i 0) := rfl
          obtain ⟨x, hxx⟩ : ∃ x, (cs l (le4 y) m i).getD (m + i) 0 = x := ⟨_, rfl⟩
          obtain ⟨z, hzz⟩ : ∃ z, (le4 y).getD i 0 = z := ⟨_, rfl⟩
          rw [hxx, hzz] at hcs
          rw [hxx] at k1 hx
          rw [hzz] at k3 hz
          have HCS := Lib.hid hcs
          have e1 := xor_u8 x z hx hz
          have s2 := HSum.out i (by omega)
          obtain ⟨mi, hmi2⟩ : ∃ mi, m + i = mi := ⟨_, rfl⟩
          rw [hmi2] at k1 k2 s2 hmi HCS
          rw [cs_length] at hmi
          have q1 : ∀ q : Q.GW wr.drew wr.heap.size none, q.w.cell? ⟨g, mi, none⟩ = some (.int .u8 (x : Int)) := fun q => pw_cell_below (stay1 (stay0 wr) q.below) k1
          have q3 : ∀ q : Q.GW wr.drew wr.heap.size none, q.w.cell? ⟨X, i, none⟩ = some (.int .u8 (z : Int)) := fun q => pw_cell_below (stay1 (stay0 wr) q.below) k3
          have k1' : wr.drew.cell? ⟨g, mi, none⟩ = some (.int .u8 (x : Int)) := k1
          have k2' : wr.drew.frozen? ⟨g, mi, none⟩ = false := k2
          have z4 : (i : Int) < 4 := by omega
          have z5 : (mi : Int) < (l.length : Int) := by omega
          have z6 : (0 : Int) ≤ (i : Int) := by omega
          have z7 : (0 : Int) ≤ (mi : Int) := by omega
          have z8 : decide ((i : Int) < 4) = true := decide_eq_true z4
          clear k1 k2 k3 hxx hzz hcs hmi2 HJ
          go_wp2_with fail
          refine Q.wp_region_segsF none [] [0, 1, 2, 3, 4, 5, 6, 7, 8, 9, 10, 11, 12, 13, 14] 15 (by kernel_rfl) (by kernel_rfl) (by kernel_rfl) (by kernel_rfl) ?_
          dsimp only [Q.wpSegsF, Q.picks, Q.pick]
          repeat (go_big_quiet_step (fail))
          refine wpQuiet_nil ?_
          clear q1 q3
          go_wp2_with fail
          refine NoPanic.normal ?_
          clear k1' k2' e1 s2
          have hw := R_wr HR.out mi (x ^^^ z)
          rw [← HCS.out] at hw
          obtain ⟨w5, hw5⟩ : ∃ w5, w5 = wr.setCell ⟨g, mi, none⟩ (.int .u8 ((x ^^^ z : Nat) : Int)) := ⟨_, rfl⟩
          have hx5 : w5.heap[X]? = some (.cells ((natB (le4 y)).map (Value.int .u8)).toArray 62 (0, 0)) := by
            rw [hw5]
            exact (Below.heap_setCell _ _ _ _ (fun e => by have : X = g := e; omega)).trans HX.out
          rw [← hw5] at hw ⊢
          have HR5 := Lib.hid (Kd.R_below hw.1 (stay0 w5))
          have HB5 := Lib.hid ((HB.out.grown hw.2 HB.out.size (fun k hk => by injection hk with hk; omega)).drew)
          have HX5 := Lib.hid hx5
          clear hw hx5 hw5
          go_wp2_with fail
          go_roundg k
          case measure => have := HJ'.out; omega
          case rel => exact ⟨i + 1, by go_num, Lib.hid (by have := HJ'.out; omega), HR5, HB5, HX5⟩
        · have hi : i = 4 := by have := HJ.out; omega
          have z8 : decide ((i : Int) < 4) = false := decide_eq_false (by omega)
          have hr := HR.out
          rw [hi] at hr
          have hq := of_any (cs l (le4 y) m 4) (some ⟨g, 0, none⟩) cap wr (natB_length (cs l (le4 y) m 4) ▸ (Kd.R_reads' hr).2.2) (HCs.out 4 (by omega))
          rw [cs_length] at hq
          have HQ := Lib.hid hq
          clear hr hq
          obtain ⟨oc, hoc⟩ : ∃ oc, ofN (cs l (le4 y) m 4) = oc := ⟨_, rfl⟩
          rw [hoc] at HQ HLaw
          clear hoc
          go_wp2_with fail
          refine HQ.out.mono ?_
          rintro e wa ⟨rfl, hba⟩
          have HBa := Lib.hid (HB.out.trans (hba.mono HB.out.size))
          clear hba HQ
          go_wp2_with fail
          have hq := of_any l A c wa (Kd.C_below HC.out HBa.out) HL.out
          obtain ⟨ob, hob⟩ : ∃ ob, ofN l = ob := ⟨_, rfl⟩
          rw [hob] at hq HLaw
          clear hob
          refine hq.mono ?_
          rintro e W1 ⟨rfl, hb⟩
          have HB1 := Lib.hid (HBa.out.trans (hb.mono HBa.out.size))
          clear hq hb HBa
          obtain ⟨E, hE⟩ : ∃ E : Bool, E = decide (y = 0) := ⟨_, rfl⟩
          have E1 : ((oc : Int) == (ob : Int)) = E := by
            rw [hE]
            by_cases h0 : y = 0
            · rw [decide_eq_true h0, HLaw.out.2 h0]; simp
            · rw [decide_eq_false h0]
              exact beq_eq_false_iff_ne.2 (fun h => h0 (HLaw.out.1 (by omega)))
          have E2 : ((y : Int) == 0) = E := by
            rw [hE]
            by_cases h0 : y = 0
            · rw [decide_eq_true h0, h0]; rfl
            · rw [decide_eq_false h0]
              exact beq_eq_false_iff_ne.2 (by omega)
          clear hE HLaw z8
          go_wp2_with fail
          refine (close_any l A c W1 (Kd.C_below HC.out HB1.out) HL.out (by have := HM.out; omega)).mono ?_
          rintro e W2 ⟨v, rfl, hr, hb⟩
          have hr2 := Kd.R_mono (R_up hr HB1.out.size) (fun _ _ => trivial)
          obtain ⟨g, cap, rfl, hcap, hgB⟩ := R_open hr2 (by rw [clN_length]; omega)
          have HR2 := Lib.hid hr2
          have HB2 := Lib.hid (HB1.out.trans (hb.mono HB1.out.size))
          clear hr hr2 hb HB1
          go_wp2_with fail
          have hq := ends_any (clN l) (some ⟨g, 0, none⟩) cap W2 (natB_length (clN l) ▸ (Kd.R_reads' HR2.out).2.2) (clN_lt HL.out) (by have := HM.out; rw [clN_length]; omega) hcap
          rw [ends_close] at hq
          refine hq.mono ?_
          rintro e W3 ⟨rfl, hb⟩
          have HR3 := Lib.hid (Kd.R_below HR2.out hb)
          have HB3 := Lib.hid (HB2.out.trans (hb.mono HB2.out.size))
          clear hq hb HR2 HB2
          have HK := Lib.hid (clN_length l)
          by_cases p1 : place < 0
          · have z1 : decide (0 ≤ place) = false := decide_eq_false (by omega)
            go_wp2_with fail
            refine (alive_any W3).mono ?_
            rintro e W4 ⟨rfl, hb⟩
            go_wp2_with fail
            go_ret
            exact ⟨rfl, HB3.out.trans (hb.mono HB3.out.size)⟩
          have z1 : decide (0 ≤ place) = true := decide_eq_true (by omega)
          by_cases p2 : place < ((clN l).length : Int)
          · have z2 : decide (place < ((clN l).length : Int)) = true := decide_eq_true p2
            by_cases p3 : one = 0
            · have z3 : ((one : Int) == 0) = true := by simp [p3]
              have z4 : ((one : Int) != 0) = false := by simp [p3]
              go_wp2_with fail
              refine (alive_any W3).mono ?_
              rintro e W4 ⟨rfl, hb⟩
              go_wp2_with fail
              go_ret
              exact ⟨rfl, HB3.out.trans (hb.mono HB3.out.size)⟩
            have z3 : ((one : Int) == 0) = false := beq_eq_false_iff_ne.2 (by omega)
            have z4 : ((one : Int) != 0) = true := by rw [bne_iff_ne]; omega
            obtain ⟨p, rfl⟩ : ∃ p : Nat, place = (p : Int) := ⟨place.toNat, by omega⟩
            have hp : p < (clN l).length := by omega
            obtain ⟨k1, k2⟩ := R_at HR3.out hp
            have kx := getD_lt hp (clN_lt HL.out)
            have HT := Lib.hid (ends_turned (l := l) (p := p) (y := one) HL.out (by have := HK.out; omega) HO.out p3)
            have HT2 := Lib.hid (show ∀ x ∈ (clN l).set p ((clN l).getD p 0 ^^^ one), x < 256 from fun x hx => by
              rcases List.mem_or_eq_of_mem_set hx with h1 | h1
              · exact clN_lt HL.out x h1
              · rw [h1]
                exact Nat.xor_lt_two_pow (n := 8) kx HO.out)
            obtain ⟨x, hx⟩ : ∃ x, (clN l).getD p 0 = x := ⟨_, rfl⟩
            have e1 := xor_u8 x one (hx ▸ kx) HO.out
            rw [hx] at k1 HT HT2
            have hw := R_wr HR3.out p (x ^^^ one)
            have HB4 := Lib.hid (HB3.out.grown hw.2 HB3.out.size (fun k hk => by injection hk with hk; omega))
            have HR4 := Lib.hid hw.1
            obtain ⟨W4, hW4⟩ : ∃ W4, W4 = W3.setCell ⟨g, p, none⟩ (.int .u8 ((x ^^^ one : Nat) : Int)) := ⟨_, rfl⟩
            rw [← hW4] at HB4 HR4
            have HW4 := Lib.hid hW4
            clear hx kx hw hW4
            have z5 : (0 : Int) ≤ (p : Int) := by omega
            go_wp2_with fail
            clear e1 k1 k2
            refine (show Calls Try.prog _ _ (W3.setCell ⟨g, p, none⟩ (.int .u8 ((x ^^^ one : Nat) : Int))) _ from ?_)
            rw [← HW4.out]
            clear HW4
            refine (alive_any W4).mono ?_
            rintro e W5 ⟨rfl, hb⟩
            have HR5 := Lib.hid (Kd.R_below HR4.out hb)
            have HB5 := Lib.hid (HB4.out.trans (hb.mono HB4.out.size))
            clear hb HR4 HB4
            go_wp2_with fail
            have hq := ends_any ((clN l).set p (x ^^^ one)) (some ⟨g, 0, none⟩) cap W5 (natB_length ((clN l).set p (x ^^^ one)) ▸ (Kd.R_reads' HR5.out).2.2) HT2.out (by have := HM.out; rw [List.length_set, clN_length]; omega) (by rw [List.length_set]; exact hcap)
            rw [HT.out, List.length_set] at hq
            refine hq.mono ?_
            rintro e W6 ⟨rfl, hb⟩
            clear hq
            have HB6 := Lib.hid (HB5.out.trans (hb.mono HB5.out.size))
            clear hb
            go_wp2_with fail
            go_ret
            exact ⟨rfl, HB6.out⟩
          · have z2 : decide (place < ((clN l).length : Int)) = false := decide_eq_false p2
            go_wp2_with fail
            refine (alive_any W3).mono ?_
            rintro e W4 ⟨rfl, hb⟩
            go_wp2_with fail
            go_ret
            exact ⟨rfl, HB3.out.trans (hb.mono HB3.out.size)⟩
  · have yy : (decide ((0 : Int) ≤ at') = false) ∨ (decide ((0 : Int) ≤ at') = true ∧ decide (at' ≤ (l.length : Int) - 4) = false) := by
      by_cases h0 : 0 ≤ at'
      · exact .inr ⟨decide_eq_true h0, decide_eq_false (fun h => hP ⟨h0, h⟩)⟩
      · exact .inl (decide_eq_false h0)
    rcases yy with y1 | ⟨y1, y2⟩
    · go_enter Try.func8, Try.ntmps8
      go_wp2_with fail
      obtain ⟨W1, hW1⟩ : ∃ W1, W1 = w := ⟨_, rfl⟩
      have HB1 : Hid (Below w.heap.size w W1) := Lib.hid (hW1 ▸ Below.refl _ _)
      rw [← hW1]
      clear hW1
      refine (close_any l A c W1 (Kd.C_below HC.out HB1.out) HL.out (by have := HM.out; omega)).mono ?_
      rintro e W2 ⟨v, rfl, hr, hb⟩
      have hr2 := Kd.R_mono (R_up hr HB1.out.size) (fun _ _ => trivial)
      obtain ⟨g, cap, rfl, hcap, hgB⟩ := R_open hr2 (by rw [clN_length]; omega)
      have HR2 := Lib.hid hr2
      have HB2 := Lib.hid (HB1.out.trans (hb.mono HB1.out.size))
      clear hr hr2 hb HB1
      go_wp2_with fail
      have hq := ends_any (clN l) (some ⟨g, 0, none⟩) cap W2 (natB_length (clN l) ▸ (Kd.R_reads' HR2.out).2.2) (clN_lt HL.out) (by have := HM.out; rw [clN_length]; omega) hcap
      rw [ends_close] at hq
      refine hq.mono ?_
      rintro e W3 ⟨rfl, hb⟩
      have HR3 := Lib.hid (Kd.R_below HR2.out hb)
      have HB3 := Lib.hid (HB2.out.trans (hb.mono HB2.out.size))
      clear hq hb HR2 HB2
      have HK := Lib.hid (clN_length l)
      by_cases p1 : place < 0
      · have z1 : decide (0 ≤ place) = false := decide_eq_false (by omega)
        go_wp2_with fail
        refine (alive_any W3).mono ?_
        rintro e W4 ⟨rfl, hb⟩
        go_wp2_with fail
        go_ret
        exact ⟨rfl, HB3.out.trans (hb.mono HB3.out.size)⟩
      have z1 : decide (0 ≤ place) = true := decide_eq_true (by omega)
      by_cases p2 : place < ((clN l).length : Int)
      · have z2 : decide (place < ((clN l).length : Int)) = true := decide_eq_true p2
        by_cases p3 : one = 0
        · have z3 : ((one : Int) == 0) = true := by simp [p3]
          have z4 : ((one : Int) != 0) = false := by simp [p3]
          go_wp2_with fail
          refine (alive_any W3).mono ?_
          rintro e W4 ⟨rfl, hb⟩
          go_wp2_with fail
          go_ret
          exact ⟨rfl, HB3.out.trans (hb.mono HB3.out.size)⟩
        have z3 : ((one : Int) == 0) = false := beq_eq_false_iff_ne.2 (by omega)
        have z4 : ((one : Int) != 0) = true := by rw [bne_iff_ne]; omega
        obtain ⟨p, rfl⟩ : ∃ p : Nat, place = (p : Int) := ⟨place.toNat, by omega⟩
        have hp : p < (clN l).length := by omega
        obtain ⟨k1, k2⟩ := R_at HR3.out hp
        have kx := getD_lt hp (clN_lt HL.out)
        have HT := Lib.hid (ends_turned (l := l) (p := p) (y := one) HL.out (by have := HK.out; omega) HO.out p3)
        have HT2 := Lib.hid (show ∀ x ∈ (clN l).set p ((clN l).getD p 0 ^^^ one), x < 256 from fun x hx => by
          rcases List.mem_or_eq_of_mem_set hx with h1 | h1
          · exact clN_lt HL.out x h1
          · rw [h1]
            exact Nat.xor_lt_two_pow (n := 8) kx HO.out)
        obtain ⟨x, hx⟩ : ∃ x, (clN l).getD p 0 = x := ⟨_, rfl⟩
        have e1 := xor_u8 x one (hx ▸ kx) HO.out
        rw [hx] at k1 HT HT2
        have hw := R_wr HR3.out p (x ^^^ one)
        have HB4 := Lib.hid (HB3.out.grown hw.2 HB3.out.size (fun k hk => by injection hk with hk; omega))
        have HR4 := Lib.hid hw.1
        obtain ⟨W4, hW4⟩ : ∃ W4, W4 = W3.setCell ⟨g, p, none⟩ (.int .u8 ((x ^^^ one : Nat) : Int)) := ⟨_, rfl⟩
        rw [← hW4] at HB4 HR4
        have HW4 := Lib.hid hW4
        clear hx kx hw hW4
        have z5 : (0 : Int) ≤ (p : Int) := by omega
        go_wp2_with fail
        clear e1 k1 k2
        refine (show Calls Try.prog _ _ (W3.setCell ⟨g, p, none⟩ (.int .u8 ((x ^^^ one : Nat) : Int))) _ from ?_)
        rw [← HW4.out]
        clear HW4
        refine (alive_any W4).mono ?_
        rintro e W5 ⟨rfl, hb⟩
        have HR5 := Lib.hid (Kd.R_below HR4.out hb)
        have HB5 := Lib.hid (HB4.out.trans (hb.mono HB4.out.size))
        clear hb HR4 HB4
        go_wp2_with fail
        have hq := ends_any ((clN l).set p (x ^^^ one)) (some ⟨g, 0, none⟩) cap W5 (natB_length ((clN l).set p (x ^^^ one)) ▸ (Kd.R_reads' HR5.out).2.2) HT2.out (by have := HM.out; rw [List.length_set, clN_length]; omega) (by rw [List.length_set]; exact hcap)
        rw [HT.out, List.length_set] at hq
        refine hq.mono ?_
        rintro e W6 ⟨rfl, hb⟩
        clear hq
        have HB6 := Lib.hid (HB5.out.trans (hb.mono HB5.out.size))
        clear hb
        go_wp2_with fail
        go_ret
        exact ⟨rfl, HB6.out⟩
      · have z2 : decide (place < ((clN l).length : Int)) = false := decide_eq_false p2
        go_wp2_with fail
        refine (alive_any W3).mono ?_
        rintro e W4 ⟨rfl, hb⟩
        go_wp2_with fail
        go_ret
        exact ⟨rfl, HB3.out.trans (hb.mono HB3.out.size)⟩
    · go_enter Try.func8, Try.ntmps8
      go_wp2_with fail
      obtain ⟨W1, hW1⟩ : ∃ W1, W1 = w := ⟨_, rfl⟩
      have HB1 : Hid (Below w.heap.size w W1) := Lib.hid (hW1 ▸ Below.refl _ _)
      rw [← hW1]
      clear hW1
      refine (close_any l A c W1 (Kd.C_below HC.out HB1.out) HL.out (by have := HM.out; omega)).mono ?_
      rintro e W2 ⟨v, rfl, hr, hb⟩
      have hr2 := Kd.R_mono (R_up hr HB1.out.size) (fun _ _ => trivial)
      obtain ⟨g, cap, rfl, hcap, hgB⟩ := R_open hr2 (by rw [clN_length]; omega)
      have HR2 := Lib.hid hr2
      have HB2 := Lib.hid (HB1.out.trans (hb.mono HB1.out.size))
      clear hr hr2 hb HB1
      go_wp2_with fail
      have hq := ends_any (clN l) (some ⟨g, 0, none⟩) cap W2 (natB_length (clN l) ▸ (Kd.R_reads' HR2.out).2.2) (clN_lt HL.out) (by have := HM.out; rw [clN_length]; omega) hcap
      rw [ends_close] at hq
      refine hq.mono ?_
      rintro e W3 ⟨rfl, hb⟩
      have HR3 := Lib.hid (Kd.R_below HR2.out hb)
      have HB3 := Lib.hid (HB2.out.trans (hb.mono HB2.out.size))
      clear hq hb HR2 HB2
      have HK := Lib.hid (clN_length l)
      by_cases p1 : place < 0
      · have z1 : decide (0 ≤ place) = false := decide_eq_false (by omega)
        go_wp2_with fail
        refine (alive_any W3).mono ?_
        rintro e W4 ⟨rfl, hb⟩
        go_wp2_with fail
        go_ret
        exact ⟨rfl, HB3.out.trans (hb.mono HB3.out.size)⟩
      have z1 : decide (0 ≤ place) = true := decide_eq_true (by omega)
      by_cases p2 : place < ((clN l).length : Int)
      · have z2 : decide (place < ((clN l).length : Int)) = true := decide_eq_true p2
        by_cases p3 : one = 0
        · have z3 : ((one : Int) == 0) = true := by simp [p3]
          have z4 : ((one : Int) != 0) = false := by simp [p3]
          go_wp2_with fail
          refine (alive_any W3).mono ?_
          rintro e W4 ⟨rfl, hb⟩
          go_wp2_with fail
          go_ret
          exact ⟨rfl, HB3.out.trans (hb.mono HB3.out.size)⟩
        have z3 : ((one : Int) == 0) = false := beq_eq_false_iff_ne.2 (by omega)
        have z4 : ((one : Int) != 0) = true := by rw [bne_iff_ne]; omega
        obtain ⟨p, rfl⟩ : ∃ p : Nat, place = (p : Int) := ⟨place.toNat, by omega⟩
        have hp : p < (clN l).length := by omega
        obtain ⟨k1, k2⟩ := R_at HR3.out hp
        have kx := getD_lt hp (clN_lt HL.out)
        have HT := Lib.hid (ends_turned (l := l) (p := p) (y := one) HL.out (by have := HK.out; omega) HO.out p3)
        have HT2 := Lib.hid (show ∀ x ∈ (clN l).set p ((clN l).getD p 0 ^^^ one), x < 256 from fun x hx => by
          rcases List.mem_or_eq_of_mem_set hx with h1 | h1
          · exact clN_lt HL.out x h1
          · rw [h1]
            exact Nat.xor_lt_two_pow (n := 8) kx HO.out)
        obtain ⟨x, hx⟩ : ∃ x, (clN l).getD p 0 = x := ⟨_, rfl⟩
        have e1 := xor_u8 x one (hx ▸ kx) HO.out
        rw [hx] at k1 HT HT2
        have hw := R_wr HR3.out p (x ^^^ one)
        have HB4 := Lib.hid (HB3.out.grown hw.2 HB3.out.size (fun k hk => by injection hk with hk; omega))
        have HR4 := Lib.hid hw.1
        obtain ⟨W4, hW4⟩ : ∃ W4, W4 = W3.setCell ⟨g, p, none⟩ (.int .u8 ((x ^^^ one : Nat) : Int)) := ⟨_, rfl⟩
        rw [← hW4] at HB4 HR4
        have HW4 := Lib.hid hW4
        clear hx kx hw hW4
        have z5 : (0 : Int) ≤ (p : Int) := by omega
        go_wp2_with fail
        clear e1 k1 k2
        refine (show Calls Try.prog _ _ (W3.setCell ⟨g, p, none⟩ (.int .u8 ((x ^^^ one : Nat) : Int))) _ from ?_)
        rw [← HW4.out]
        clear HW4
        refine (alive_any W4).mono ?_
        rintro e W5 ⟨rfl, hb⟩
        have HR5 := Lib.hid (Kd.R_below HR4.out hb)
        have HB5 := Lib.hid (HB4.out.trans (hb.mono HB4.out.size))
        clear hb HR4 HB4
        go_wp2_with fail
        have hq := ends_any ((clN l).set p (x ^^^ one)) (some ⟨g, 0, none⟩) cap W5 (natB_length ((clN l).set p (x ^^^ one)) ▸ (Kd.R_reads' HR5.out).2.2) HT2.out (by have := HM.out; rw [List.length_set, clN_length]; omega) (by rw [List.length_set]; exact hcap)
        rw [HT.out, List.length_set] at hq
        refine hq.mono ?_
        rintro e W6 ⟨rfl, hb⟩
        clear hq
        have HB6 := Lib.hid (HB5.out.trans (hb.mono HB5.out.size))
        clear hb
        go_wp2_with fail
        go_ret
        exact ⟨rfl, HB6.out⟩
      · have z2 : decide (place < ((clN l).length : Int)) = false := decide_eq_false p2
        go_wp2_with fail
        refine (alive_any W3).mono ?_
        rintro e W4 ⟨rfl, hb⟩
        go_wp2_with fail
        go_ret
        exact ⟨rfl, HB3.out.trans (hb.mono HB3.out.size)⟩
theorem bursts_walk (l : List Int) (A : Option Addr) (c : Nat) (at' y place one : Int) (w : World) (hC : (Kd.int .u8).C w A l.length l) (hc : l.length ≤ c) (hl : ∀ x ∈ l, 0 ≤ x ∧ x < 256) (hy : 0 ≤ y ∧ y < 4294967296) (ho : 0 ≤ one ∧ one < 256) :
    Calls Try.prog 8 #[.slice A l.length c, .int .i64 at', .int .u32 y, .int .i64 place, .int .u8 one] w fun e w' => e = .returned (.bool true) ∧ Below w.heap.size w w' := by
  obtain ⟨m, e1, k1, l1, _⟩ := C_nat hC hl
  obtain ⟨y, rfl⟩ : ∃ n : Nat, y = (n : Int) := ⟨y.toNat, by omega⟩
  obtain ⟨one, rfl⟩ : ∃ n : Nat, one = (n : Int) := ⟨one.toNat, by omega⟩
  rw [← e1]
  exact bursts_nat m A c at' y place one w k1 (by omega) l1 (by omega) (by omega)
end Go.Proofs.Ytagfplcafeblbaa.C
