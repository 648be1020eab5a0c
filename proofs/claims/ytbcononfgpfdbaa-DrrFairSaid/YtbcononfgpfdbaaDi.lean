/-
  drr: the law DrrFair, walked.
-/
import Derived.Test.YtbcononfgpfdbaaDg
import Derived.Test.YtbcononfgpfdbaaDh
namespace Go.Proofs.Ytbcononfgpfdbaa.D
open Go.RowKit Go.Proofs.Ytbcononfgpfdbaa.L Go.Proofs.YtbcononfgpfdbaaW.PrintWords

/-- the law's state: the ring, what was spent -/
structure FS (b : Nat) (q : Int) (L : List Mem) (g : Nat) (S : List Int) (w0 w : World) : Prop where
  rg : RG b q L w0.heap.size w
  arr : w.heap[g]? = some (.cells (S.map (Value.int .i64)).toArray 30 (0, 0))
  fr : Below w0.heap.size w0 w
  gl : w0.heap.size ≤ g
theorem FS.drew {b g : Nat} {q : Int} {L : List Mem} {S : List Int} {w0 w : World} (h : FS b q L g S w0 w) : FS b q L g S w0 w.drew := ⟨h.rg.below (stay0 w), h.arr, h.fr.drew, h.gl⟩
theorem FS.ring {b g : Nat} {q : Int} {L L' : List Mem} {S : List Int} {w0 w w1 : World} (h : FS b q L g S w0 w) (hr : RG b q L' w0.heap.size w1) (hf : FR w0.heap.size w w1) : FS b q L' g S w0 w1 :=
  ⟨hr, (hf.typ g _ _ _ h.arr (by decide) (by decide)).trans h.arr, h.fr.trans hf.below, h.gl⟩
theorem FS.cell {b g : Nat} {q : Int} {L : List Mem} {S : List Int} {w0 w : World} (h : FS b q L g S w0 w) {i : Nat} (hi : i < S.length) : w.cell? ⟨g, i, none⟩ = some (.int .i64 (S.getD i 0)) := by
  rw [blk_cell h.arr, List.getElem?_toArray, List.getElem?_map, List.getD_eq_getElem?_getD, List.getElem?_eq_getElem hi]
  rfl
theorem FS.store {b g : Nat} {q : Int} {L : List Mem} {S : List Int} {w0 w : World} (h : FS b q L g S w0 w) (i : Nat) (x : Int) : FS b q L g (S.set i x) w0 (w.setCell ⟨g, i, none⟩ (.int .i64 x)) := by
  obtain ⟨v, h1, h2, h3⟩ := h.rg
  refine ⟨⟨v, blk_far (p := ⟨g, i, none⟩) h1 (blk_ne h1 h.arr (by decide)) _, h2, Kd.R_set h3 h.arr (by intro q hq; simp [show kM.E = [] from rfl] at hq; subst hq; decide) i _⟩, ?_, h.fr.setCell h.gl _, h.gl⟩
  have := blk_set h.arr i (.int .i64 x)
  rw [this, List.map_set]
  simp
theorem wrap_id64 {x : Int} (h0 : 0 ≤ x) (h1 : x < 18446744073709551616) : IntKind.u64.wrap x = x := wraps_u64 x h0 (by omega)

set_option maxHeartbeats 3200000 in
set_option maxRecDepth 100000 in
theorem fair_early (n q most : Int) (l : List Int) (A : Option Addr) (c : Nat) (w : World) (h : (q < 1 ∨ 65536 < q) ∨ ((1 ≤ q ∧ q ≤ 65536) ∧ (most < 1 ∨ 65536 < most))) :
    Calls Try.prog 3 #[.int .u8 n, .int .i64 q, .int .i64 most, .slice A l.length c] w fun e w' => e = .returned (.bool true) ∧ Below w.heap.size w w' := by
  rcases h with h | ⟨h, hm⟩
  · have HN := Lib.hid (new_no q w h)
    clear h
    go_enter Try.func3, Try.ntmps3
    go_wp2_with fail
    refine HN.out.mono ?_
    rintro e w0 ⟨rfl, rfl⟩
    go_wp2_with (go_at_call 16; refine (alive_any _).mono ?_; rintro e w1 ⟨rfl, hb1⟩; (have HB1 := Lib.hid hb1); clear hb1)
    go_ret
    exact ⟨rfl, HB1.out⟩
  · have HN := Lib.hid (new_yes q w h.1 h.2)
    have H := Lib.hid h
    clear h
    rcases hm with hm | hm
    · have t1 : decide (most < 1) = true := decide_eq_true hm
      clear hm
      go_enter Try.func3, Try.ntmps3
      go_wp2_with fail
      refine HN.out.mono ?_
      rintro e w0 ⟨b, rfl, hg, hb⟩
      have HB := Lib.hid hb
      clear hg hb
      go_wp2_with (go_at_call 16; refine (alive_any _).mono ?_; rintro e w1 ⟨rfl, hb1⟩; (have HB1 := Lib.hid hb1); clear hb1)
      go_ret
      exact ⟨rfl, stay1 HB.out HB1.out⟩
    · have t1 : decide (most < 1) = false := decide_eq_false (by omega)
      have t2 : decide (65536 < most) = true := decide_eq_true hm
      clear hm
      go_enter Try.func3, Try.ntmps3
      go_wp2_with fail
      refine HN.out.mono ?_
      rintro e w0 ⟨b, rfl, hg, hb⟩
      have HB := Lib.hid hb
      clear hg hb
      go_wp2_with (go_at_call 16; refine (alive_any _).mono ?_; rintro e w1 ⟨rfl, hb1⟩; (have HB1 := Lib.hid hb1); clear hb1)
      go_ret
      exact ⟨rfl, stay1 HB.out HB1.out⟩

set_option maxHeartbeats 6400000 in
set_option maxRecDepth 100000 in
theorem fair_main (n q most : Int) (l : List Int) (A : Option Addr) (c : Nat) (w : World) (hn : 0 ≤ n ∧ n < 256) (hq : 1 ≤ q ∧ q ≤ 65536) (hM : 1 ≤ most ∧ most ≤ 65536) (hC : (Kd.int .u16).C w A l.length l) (hl : ∀ x ∈ l, 0 ≤ x ∧ x < 65536) :
    Calls Try.prog 3 #[.int .u8 n, .int .i64 q, .int .i64 most, .slice A l.length c] w fun e w' => e = .returned (.bool true) ∧ Below w.heap.size w w' := by
  have HN := Lib.hid (new_yes q w hq.1 hq.2)
  have HQ := Lib.hid hq
  have HM := Lib.hid hM
  have HC := Lib.hid hC
  have HL := Lib.hid hl
  have hlm := (C_open hC).1
  obtain ⟨x, hx⟩ : ∃ x : Nat, n % 16 = x := ⟨(n % 16).toNat, by omega⟩
  have e15 : bits .and .u8 n 15 = (x : Int) := by rw [u8_and15 n hn.1 hn.2, hx]
  have hx15 : x ≤ 15 := by omega
  have t1 : decide (most < 1) = false := decide_eq_false (by omega)
  have t2 : decide (65536 < most) = false := decide_eq_false (by omega)
  have HX := Lib.hid hx15
  clear hC hl hx hn hq
  go_enter Try.func3, Try.ntmps3
  go_wp2_with fail
  refine HN.out.mono ?_
  rintro e w0 ⟨b, rfl, hg, hb⟩
  have HG := Lib.hid hg
  have HB := Lib.hid hb
  clear hg hb HN
  go_wp2_with fail
  clear e15
  go_loopg [12] (x + 2) (fun g v12 w' => ∃ (i : Nat), v12 = .int .i64 i ∧ Hid (i ≤ 1 + x ∧ 1 + x < g + i) ∧ Hid (RG b q (seqM q i) w.heap.size w') ∧ Hid (Below w.heap.size w w'))
  case atStart => exact ⟨0, rfl, Lib.hid ⟨by omega, by omega⟩, HG, HB⟩
  case round =>
    clear HG HB
    obtain ⟨i, rfl, HJ, HG, HB⟩ := hrel
    cases gk with
    | zero => have := HJ.out; omega
    | succ k =>
      by_cases hlt : i < 1 + x
      · have HA := add_any b w.heap.size q (seqM q i) i wr HG.out HQ.out (by rw [seqM_length]; omega)
        rw [addP_seq q i (by omega)] at HA
        have HA := Lib.hid HA
        have HJ' := Lib.hid (show i < 1 + x ∧ 1 + x < (k + 1) + i from ⟨hlt, HJ.out.2⟩)
        have hw : IntKind.u64.wrap (i : Int) = i := wrap_id64 (by omega) (by omega)
        clear HJ
        go_wp2_with fail
        refine HA.out.mono ?_
        rintro e w1 ⟨rfl, hg1, hf1⟩
        have HG1 := Lib.hid hg1
        have HB1 := Lib.hid (HB.out.trans hf1.below)
        clear hg1 hf1 HA hw
        go_wp2_with fail
        go_roundg k
        case measure => have := HJ'.out; omega
        case rel => exact ⟨i + 1, by go_num, Lib.hid (by have := HJ'.out; omega), HG1, HB1⟩
      · have hi : i = 1 + x := by have := HJ.out; omega
        subst hi
        clear HJ hlt
        go_wp2_with fail
        obtain ⟨wo, rfl⟩ : ∃ wo : World, wo = wr := ⟨_, rfl⟩
        obtain ⟨G, hG⟩ : ∃ G, wo.heap.size = G := ⟨_, rfl⟩
        have HFS := Lib.hid (show FS b q (seqM q (1 + x)) G (List.replicate 16 0) w (wo.alloc (.cells #[.int .i64 0, .int .i64 0, .int .i64 0, .int .i64 0, .int .i64 0, .int .i64 0, .int .i64 0, .int .i64 0, .int .i64 0, .int .i64 0, .int .i64 0, .int .i64 0, .int .i64 0, .int .i64 0, .int .i64 0, .int .i64 0] 30)) from
          ⟨HG.out.below ((Below.refl _ _).alloc (Nat.le_refl _) _), by rw [← hG]; exact heap_alloc_new wo _, HB.out.alloc HB.out.size _, by rw [← hG]; exact HB.out.size⟩)
        rw [hG]
        have HFA := Lib.hid (fair_start q most (1 + x) HQ.out.1 HM.out.1 (by omega))
        clear hG HG HB
        go_loopg [14] (l.length + 2) (fun g v14 w' => ∃ (i : Nat) (L : List Mem) (S : List Int), v14 = .int .i64 i ∧ Hid (i ≤ l.length ∧ i ≤ 300 ∧ l.length < g + i) ∧ Hid (FS b q L G S w w') ∧ Hid (Fair q most (1 + x) L S) ∧ Hid (S.length = 16 ∧ ∀ j, 0 ≤ S.getD j 0 ∧ S.getD j 0 ≤ 65536 * i))
        case atStart => exact ⟨0, _, _, rfl, Lib.hid ⟨by omega, by omega, by omega⟩, HFS, HFA, Lib.hid ⟨by simp, fun j => by
          have e : (List.replicate 16 (0 : Int)).getD j 0 = 0 := by
            rw [List.getD_eq_getElem?_getD, List.getElem?_replicate]
            split <;> rfl
          rw [e]
          exact ⟨Int.le_refl _, by omega⟩⟩⟩
        case round =>
          clear HFS HFA
          obtain ⟨i, L, S, rfl, HJ, HFS, HFA, HS⟩ := hrel
          cases gk with
          | zero => have := HJ.out; omega
          | succ k2 =>
            by_cases hlt : i < l.length ∧ i < 300
            rotate_left
            · have hlt' : ¬ (i : Int) < (l.length : Int) ∨ ((i : Int) < (l.length : Int) ∧ ¬ (i : Int) < 300) := by omega
              clear hlt
              rcases hlt' with hlt | ⟨hlt, hlt2⟩
              all_goals
                go_wp2_with (go_at_call 16; refine (alive_any _).mono ?_; rintro e w1 ⟨rfl, hb1⟩; (have HB1 := Lib.hid hb1); clear hb1)
                go_ret
                exact ⟨rfl, stay1 HFS.out.fr HB1.out⟩
            obtain ⟨hlt, hlt2⟩ := hlt
            have HJ' := Lib.hid (show i < l.length ∧ i < 300 ∧ l.length < (k2 + 1) + i from ⟨hlt, hlt2, HJ.out.2.2⟩)
            clear HJ
            have hlen := HFA.out.len
            obtain ⟨h, r, rfl⟩ : ∃ h r, L = h :: r := by
              cases L with
              | nil => exact absurd hlen (by simp; omega)
              | cons h r => exact ⟨h, r, rfl⟩
            clear hlen
            obtain ⟨h1, h2⟩ := h
            have hlow := HFA.out.low (h1, h2) (by simp)
            obtain ⟨d, rfl⟩ : ∃ d : Nat, h1 = (d : Int) := ⟨h1.toNat, by have := hlow.1; simp at this; omega⟩
            have hd : d < 1 + x := by have := hlow.2; simp at this; omega
            clear hlow
            have HLEN := Lib.hid (show (((d : Int), h2) :: r).length ≤ 16 from by rw [HFA.out.len]; omega)
            have HSM := Lib.hid (show small (((d : Int), h2) :: r) from fun m hm => ⟨HFA.out.pos m hm, by
              obtain ⟨T, _, h3⟩ := HFA.out.turns
              obtain ⟨a1, a2, _⟩ := h3 _ _ rfl
              have := HQ.out
              have := HM.out
              rcases List.mem_cons.1 hm with rfl | hm
              · omega
              · have := (a2 m hm).1; omega⟩)
            have HT := Lib.hid (turn_any b w.heap.size q (((d : Int), h2) :: r) wr HFS.out.rg HQ.out.1)
            rw [if_neg (by simp), show headId (((d : Int), h2) :: r) = d from rfl, show decide (0 < (((d : Int), h2) :: r).length) = true from by simp] at HT
            rcases (C_open HC.out).2 with e | ⟨bo, off, rfl, hbo, hcells⟩
            · subst e; simp at hlt
            have c0 := (HFS.out.fr.cell (p := ⟨bo, off + i, none⟩) hbo).trans (hcells i hlt)
            have hy := HL.out (l.getD i 0) (by rw [List.getD_eq_getElem?_getD, List.getElem?_eq_getElem hlt]; simp)
            clear hcells
            generalize l.getD i 0 = y at c0 hy
            have hm0 : 0 ≤ y % most := Int.emod_nonneg _ (by omega)
            have hm1 : y % most < most := Int.emod_lt_of_pos _ (by omega)
            have hw : IntKind.i64.wrap y = y := IntWalk.i64_in _ (by omega)
            go_wp2_with fail
            refine HT.out.mono ?_
            rintro e _ ⟨rfl, rfl⟩
            clear HT
            go_wp2_with fail
            clear c0 hw
            generalize hcc : 1 + y % most = cost
            have hc1 : 1 ≤ cost := by omega
            have hcM : cost ≤ most := by omega
            clear hcc hm0 hm1 hy
            have HSP := spend_any b w.heap.size q (((d : Int), h2) :: r) cost wr HFS.out.rg HQ.out HLEN.out HSM.out
            unfold spendP at HSP
            rw [if_neg (by have := HM.out; omega)] at HSP
            dsimp only at HSP
            have hsd := HS.out.2 d
            have hi300 : (i : Int) < 300 := by omega
            by_cases hcs : cost ≤ h2
            · rw [if_pos hcs] at HSP
              have HSP := Lib.hid HSP
              have HCS := Lib.hid hcs
              clear hcs
              refine HSP.out.mono ?_
              rintro e w1 ⟨rfl, hg1, hf1⟩
              have HF1 := Lib.hid (HFS.out.ring hg1 hf1)
              clear hg1 hf1 HSP HFS
              have c0 := HF1.out.cell (i := d) (by rw [HS.out.1]; omega)
              have f0 := blk_frozen HF1.out.arr d
              obtain ⟨sd, hsdd⟩ : ∃ sd, S.getD d 0 = sd := ⟨_, rfl⟩
              rw [hsdd] at c0 hsd
              have hM2 := HM.out
              go_wp2_with fail
              obtain ⟨w2, hw2⟩ : ∃ w2, w2 = w1.setCell ⟨G, d, none⟩ (.int .i64 (sd + cost)) := ⟨_, rfl⟩
              rw [← hw2]
              obtain ⟨L2, S2, HFS2, HFA2, HS2⟩ : ∃ L2 S2, Hid (FS b q L2 G S2 w w2) ∧ Hid (Fair q most (1 + x) L2 S2) ∧ Hid (S2.length = 16 ∧ ∀ j, 0 ≤ S2.getD j 0 ∧ S2.getD j 0 ≤ 65536 * ((i + 1 : Nat) : Int)) := by
                refine ⟨_, S.set d (sd + cost), Lib.hid (by rw [hw2]; exact HF1.out.store d (sd + cost)), Lib.hid (by rw [← hsdd]; exact HFA.out.spend (by rw [HS.out.1]; omega) HCS.out hc1), Lib.hid ⟨by rw [List.length_set]; exact HS.out.1, fun j => ?_⟩⟩
                rw [getD_set _ _ _ _ (by rw [HS.out.1]; omega)]
                split
                · omega
                · have := HS.out.2 j; omega
              clear hw2 HF1 HCS c0 f0 hsdd hsd HFA HS hM2
              clear HLEN HSM
              have hq1 := HQ.out
              have hi1 : ((i + 1 : Nat) : Int) ≤ 300 := by omega
              go_loopg [20] (x + 3) (fun g v20 w' => ∃ (p : Nat), v20 = .int .i64 p ∧ Hid (p ≤ 1 + x ∧ 1 + x < g + p) ∧ Hid (FS b q L2 G S2 w w'))
              case atStart => exact ⟨0, rfl, Lib.hid ⟨by omega, by omega⟩, HFS2⟩
              case round =>
                clear HFS2
                obtain ⟨p, rfl, HP, HFS2⟩ := hrel
                cases gk with
                | zero => have := HP.out; omega
                | succ k3 =>
                  by_cases hp : p < 1 + x
                  · have HP' := Lib.hid (show p < 1 + x ∧ 1 + x < (k3 + 1) + p from ⟨hp, HP.out.2⟩)
                    clear HP
                    go_wp2_with fail
                    obtain ⟨wo3, rfl⟩ : ∃ wo : World, wo = wr := ⟨_, rfl⟩
                    go_loopg [21] (x + 3) (fun g v21 w' => ∃ (p2 : Nat), v21 = .int .i64 p2 ∧ Hid (p2 ≤ 1 + x ∧ 1 + x < g + p2) ∧ Hid (FS b q L2 G S2 w w'))
                    case atStart => exact ⟨0, rfl, Lib.hid ⟨by omega, by omega⟩, HFS2⟩
                    case round =>
                      clear HFS2
                      obtain ⟨p2, rfl, HP2, HFS2⟩ := hrel
                      cases gk with
                      | zero => have := HP2.out; omega
                      | succ k4 =>
                        by_cases hp2 : p2 < 1 + x
                        · have HP2' := Lib.hid (show p2 < 1 + x ∧ 1 + x < (k4 + 1) + p2 from ⟨hp2, HP2.out.2⟩)
                          clear HP2
                          have hdiff := HFA2.out.diff HQ.out.1 HM.out.1 hp hp2
                          have b1 := HS2.out.2 p
                          have b2 := HS2.out.2 p2
                          have c1 := HFS2.out.cell (i := p) (by rw [HS2.out.1]; omega)
                          have c2 := HFS2.out.cell (i := p2) (by rw [HS2.out.1]; omega)
                          generalize S2.getD p 0 = sa at *
                          generalize S2.getD p2 0 = sb at *
                          have s1 : IntKind.i64.wrap (sa - sb) = sa - sb := IntWalk.i64_in _ (by omega)
                          have s2 : IntKind.i64.wrap (q + most) = q + most := IntWalk.i64_in _ (by omega)
                          have t3 : decide (q + most ≤ sa - sb) = false := decide_eq_false (by omega)
                          have z1 : (0 : Int) ≤ (p : Int) := by omega
                          have z2 : (p : Int) < 16 := by omega
                          have z3 : (0 : Int) ≤ (p2 : Int) := by omega
                          have z4 : (p2 : Int) < 16 := by omega
                          have q1 : ∀ m : Q.GW wr.drew wr.heap.size none, m.w.cell? ⟨G, p, none⟩ = some (.int .i64 sa) := fun m => pw_cell_below (stay1 (stay0 wr) m.below) c1
                          have q2 : ∀ m : Q.GW wr.drew wr.heap.size none, m.w.cell? ⟨G, p2, none⟩ = some (.int .i64 sb) := fun m => pw_cell_below (stay1 (stay0 wr) m.below) c2
                          clear hdiff b1 b2 c1 c2
                          go_wp2_with fail
                          refine Q.wp_region_segs none [([0, 1, 2, 3, 4, 5, 6, 7, 8, 9, 10], none)] (by kernel_rfl) (by kernel_rfl) (by kernel_rfl) (by kernel_rfl) ?_
                          dsimp only [Q.wpSegs, Q.picks, Q.pick]
                          repeat (go_big_quiet_step (fail))
                          refine wpQuiet_nil ?_
                          refine NoPanic.normal ?_
                          clear q1 q2 s1 s2 t3 z1 z2 z3 z4
                          go_wp2
                          go_roundg k4
                          case measure => have := HP2'.out; omega
                          case rel => exact ⟨p2 + 1, by go_num, Lib.hid (by have := HP2'.out; omega), Lib.hid HFS2.out.drew⟩
                        · clear HP2
                          go_wp2_with fail
                          go_roundg k3
                          case measure => have := HP'.out; omega
                          case rel => exact ⟨p + 1, by go_num, Lib.hid (by have := HP'.out; omega), HFS2⟩
                  · clear HP
                    go_wp2_with fail
                    go_roundg k2
                    case measure => have := HJ'.out; omega
                    case rel => exact ⟨i + 1, L2, S2, by go_num, Lib.hid (by have := HJ'.out; omega), HFS2, HFA2, HS2⟩
            · rw [if_neg hcs] at HSP
              have HSP := Lib.hid HSP
              have HCS := Lib.hid hcs
              clear hcs
              refine HSP.out.mono ?_
              rintro e w1 ⟨rfl, hg1, hf1⟩
              have HF1 := Lib.hid (HFS.out.ring hg1 hf1)
              clear hg1 hf1 HSP HFS
              go_wp2_with fail
              obtain ⟨w2, rfl⟩ : ∃ w2 : World, w2 = w1 := ⟨_, rfl⟩
              obtain ⟨L2, S2, HFS2, HFA2, HS2⟩ : ∃ L2 S2, Hid (FS b q L2 G S2 w w2) ∧ Hid (Fair q most (1 + x) L2 S2) ∧ Hid (S2.length = 16 ∧ ∀ j, 0 ≤ S2.getD j 0 ∧ S2.getD j 0 ≤ 65536 * ((i + 1 : Nat) : Int)) :=
                ⟨_, S, HF1, Lib.hid (HFA.out.pass HQ.out.1 (by have := HCS.out; show h2 < cost; omega) hcM), Lib.hid ⟨HS.out.1, fun j => by have := HS.out.2 j; omega⟩⟩
              clear HF1 HCS hsd HFA HS
              clear HLEN HSM
              have hq1 := HQ.out
              have hi1 : ((i + 1 : Nat) : Int) ≤ 300 := by omega
              go_loopg [20] (x + 3) (fun g v20 w' => ∃ (p : Nat), v20 = .int .i64 p ∧ Hid (p ≤ 1 + x ∧ 1 + x < g + p) ∧ Hid (FS b q L2 G S2 w w'))
              case atStart => exact ⟨0, rfl, Lib.hid ⟨by omega, by omega⟩, HFS2⟩
              case round =>
                clear HFS2
                obtain ⟨p, rfl, HP, HFS2⟩ := hrel
                cases gk with
                | zero => have := HP.out; omega
                | succ k3 =>
                  by_cases hp : p < 1 + x
                  · have HP' := Lib.hid (show p < 1 + x ∧ 1 + x < (k3 + 1) + p from ⟨hp, HP.out.2⟩)
                    clear HP
                    go_wp2_with fail
                    obtain ⟨wo3, rfl⟩ : ∃ wo : World, wo = wr := ⟨_, rfl⟩
                    go_loopg [21] (x + 3) (fun g v21 w' => ∃ (p2 : Nat), v21 = .int .i64 p2 ∧ Hid (p2 ≤ 1 + x ∧ 1 + x < g + p2) ∧ Hid (FS b q L2 G S2 w w'))
                    case atStart => exact ⟨0, rfl, Lib.hid ⟨by omega, by omega⟩, HFS2⟩
                    case round =>
                      clear HFS2
                      obtain ⟨p2, rfl, HP2, HFS2⟩ := hrel
                      cases gk with
                      | zero => have := HP2.out; omega
                      | succ k4 =>
                        by_cases hp2 : p2 < 1 + x
                        · have HP2' := Lib.hid (show p2 < 1 + x ∧ 1 + x < (k4 + 1) + p2 from ⟨hp2, HP2.out.2⟩)
                          clear HP2
                          have hdiff := HFA2.out.diff HQ.out.1 HM.out.1 hp hp2
                          have b1 := HS2.out.2 p
                          have b2 := HS2.out.2 p2
                          have c1 := HFS2.out.cell (i := p) (by rw [HS2.out.1]; omega)
                          have c2 := HFS2.out.cell (i := p2) (by rw [HS2.out.1]; omega)
                          generalize S2.getD p 0 = sa at *
                          generalize S2.getD p2 0 = sb at *
                          have s1 : IntKind.i64.wrap (sa - sb) = sa - sb := IntWalk.i64_in _ (by omega)
                          have s2 : IntKind.i64.wrap (q + most) = q + most := IntWalk.i64_in _ (by omega)
                          have t3 : decide (q + most ≤ sa - sb) = false := decide_eq_false (by omega)
                          have z1 : (0 : Int) ≤ (p : Int) := by omega
                          have z2 : (p : Int) < 16 := by omega
                          have z3 : (0 : Int) ≤ (p2 : Int) := by omega
                          have z4 : (p2 : Int) < 16 := by omega
                          have q1 : ∀ m : Q.GW wr.drew wr.heap.size none, m.w.cell? ⟨G, p, none⟩ = some (.int .i64 sa) := fun m => pw_cell_below (stay1 (stay0 wr) m.below) c1
                          have q2 : ∀ m : Q.GW wr.drew wr.heap.size none, m.w.cell? ⟨G, p2, none⟩ = some (.int .i64 sb) := fun m => pw_cell_below (stay1 (stay0 wr) m.below) c2
                          clear hdiff b1 b2 c1 c2
                          go_wp2_with fail
                          refine Q.wp_region_segs none [([0, 1, 2, 3, 4, 5, 6, 7, 8, 9, 10], none)] (by kernel_rfl) (by kernel_rfl) (by kernel_rfl) (by kernel_rfl) ?_
                          dsimp only [Q.wpSegs, Q.picks, Q.pick]
                          repeat (go_big_quiet_step (fail))
                          refine wpQuiet_nil ?_
                          refine NoPanic.normal ?_
                          clear q1 q2 s1 s2 t3 z1 z2 z3 z4
                          go_wp2
                          go_roundg k4
                          case measure => have := HP2'.out; omega
                          case rel => exact ⟨p2 + 1, by go_num, Lib.hid (by have := HP2'.out; omega), Lib.hid HFS2.out.drew⟩
                        · clear HP2
                          go_wp2_with fail
                          go_roundg k3
                          case measure => have := HP'.out; omega
                          case rel => exact ⟨p + 1, by go_num, Lib.hid (by have := HP'.out; omega), HFS2⟩
                  · clear HP
                    go_wp2_with fail
                    go_roundg k2
                    case measure => have := HJ'.out; omega
                    case rel => exact ⟨i + 1, L2, S2, by go_num, Lib.hid (by have := HJ'.out; omega), HFS2, HFA2, HS2⟩
theorem fair_walk (n q most : Int) (l : List Int) (A : Option Addr) (c : Nat) (w : World) (hn : 0 ≤ n ∧ n < 256) (hC : (Kd.int .u16).C w A l.length l) (hl : ∀ x ∈ l, 0 ≤ x ∧ x < 65536) :
    Calls Try.prog 3 #[.int .u8 n, .int .i64 q, .int .i64 most, .slice A l.length c] w fun e w' => e = .returned (.bool true) ∧ Below w.heap.size w w' := by
  by_cases hq : 1 ≤ q ∧ q ≤ 65536
  · by_cases hM : 1 ≤ most ∧ most ≤ 65536
    · exact fair_main n q most l A c w hn hq hM hC hl
    · exact fair_early n q most l A c w (.inr ⟨hq, by omega⟩)
  · exact fair_early n q most l A c w (.inl (by omega))
end Go.Proofs.Ytbcononfgpfdbaa.D
