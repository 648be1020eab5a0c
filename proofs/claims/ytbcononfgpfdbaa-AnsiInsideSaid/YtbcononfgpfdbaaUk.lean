/-
  ansi: As, slices.Equal, equal, Same, all.
-/
import Derived.Test.YtbcononfgpfdbaaUj
namespace Go.Proofs.Ytbcononfgpfdbaa.An
open Go.RowKit Go.Proofs.Ytbcononfgpfdbaa.L Go.Proofs.Ytbcononfgpfdbaa.N Go.Proofs.YtbcononfgpfdbaaW.PrintWords

theorem below2 {w w3 : World} {o1 o2 : Obj} (h : Below ((w.alloc o1).alloc o2).heap.size ((w.alloc o1).alloc o2) w3) : Below w.heap.size w w3 :=
  (((Below.refl _ _).alloc (Nat.le_refl _) _).alloc (by simp) _).trans (h.mono (by simp; omega))
abbrev tF : TypeId := 65
theorem load7 {w : World} {b : Nat} {a0 a1 a2 a3 a4 a5 a6 : Value} (h : w.heap[b]? = some (.cells #[a0, a1, a2, a3, a4, a5, a6] tF (0, 0))) : (loadVar tF ⟨b, 0, none⟩).run Try.prog w = .ok (.agg #[a0, a1, a2, a3, a4, a5, a6]) w :=
  run_loadVar_row _ _ _ _ _ _ _ h Try.underlying65 rfl (by kernel_rfl)
set_option maxRecDepth 100000 in
set_option maxHeartbeats 3200000 in
theorem as_any (e : Ev) (A : Option Addr) (c : Nat) (w : World) : Calls Try.prog 35 #[.agg (evA e A c)] w fun en w' => en = .returned (.agg (evA e A c)) ∧ Below w.heap.size w w' := by
  obtain ⟨e0, e1, e2, e3, e4, e5, e6⟩ := e
  have HL := Lib.hid (show (evA (e0, e1, e2, e3, e4, e5, e6) A c) = #[.int .i64 e0, .int .i32 e1, .int .u8 e2, .int .u8 e3, .int .u8 e4, .slice A e5.length c, .string e6] from rfl)
  rw [HL.out]
  obtain ⟨L, hL⟩ : ∃ L, e5.length = L := ⟨_, rfl⟩
  rw [hL]
  clear HL hL
  go_enter Try.func35, Try.ntmps35
  go_wp2_with fail
  have hl := load7 (w := (w.alloc (.cells #[.int .i64 e0, .int .i32 e1, .int .u8 e2, .int .u8 e3, .int .u8 e4, .slice A L c, .string e6] tE)).alloc (.cells #[.int .i64 e0, .int .i32 e1, .int .u8 e2, .int .u8 e3, .int .u8 e4, .slice A L c, .string e6] tF)) (b := w.heap.size + 1) (by
    have h := heap_alloc_new (w.alloc (.cells #[.int .i64 e0, .int .i32 e1, .int .u8 e2, .int .u8 e3, .int .u8 e4, .slice A L c, .string e6] tE)) (.cells #[.int .i64 e0, .int .i32 e1, .int .u8 e2, .int .u8 e3, .int .u8 e4, .slice A L c, .string e6] tF)
    simpa using h)
  have hb1 : Below w.heap.size w (w.alloc (.cells #[.int .i64 e0, .int .i32 e1, .int .u8 e2, .int .u8 e3, .int .u8 e4, .slice A L c, .string e6] tE)) := (Below.refl _ _).alloc (Nat.le_refl _) _
  exact bodyPost_ret (v := .agg #[.int .i64 e0, .int .i32 e1, .int .u8 e2, .int .u8 e3, .int .u8 e4, .slice A L c, .string e6]) (by simp [results, Try.results35, hl, asAddr]) rfl ⟨rfl, hb1.alloc hb1.size _⟩
theorem ne_of_getD {l m : List Int} {i : Nat} (h : l.getD i 0 ≠ m.getD i 0) : l ≠ m := fun e => h (by rw [e])
theorem take_step {l m : List Int} {i : Nat} (hl : i < l.length) (hm : i < m.length) (h : l.take i = m.take i) (hx : l.getD i 0 = m.getD i 0) : l.take (i + 1) = m.take (i + 1) := by
  rw [List.take_succ_eq_append_getElem hl, List.take_succ_eq_append_getElem hm, h]
  rw [List.getD_eq_getElem?_getD, List.getElem?_eq_getElem hl, List.getD_eq_getElem?_getD, List.getElem?_eq_getElem hm] at hx
  have : l[i] = m[i] := hx
  rw [this]
set_option maxRecDepth 100000 in
set_option maxHeartbeats 3200000 in
theorem seq_any (l m : List Int) (A1 A2 : Option Addr) (c1 c2 : Nat) (w : World) (h1 : (Kd.int .i64).C w A1 l.length l) (h2 : (Kd.int .i64).C w A2 m.length m) :
    Calls Try.prog 55 #[.slice A1 l.length c1, .slice A2 m.length c2] w fun e w' => e = .returned (.bool (decide (l = m))) ∧ Below w.heap.size w w' := by
  have HC1 := Lib.hid h1
  have HC2 := Lib.hid h2
  have hmx := (C_open h1).1
  by_cases hl : l.length = m.length
  · have HLm := Lib.hid hl
    obtain ⟨L, hL⟩ : ∃ L, m.length = L := ⟨_, rfl⟩
    have HL := Lib.hid hL
    rw [hL] at hl
    rw [hL, hl]
    have z0 : (L : Int) ≤ 9223372036854775807 := by omega
    clear h1 h2 hL hl hmx
    go_enter Try.func55, Try.ntmps55
    go_wp2_with fail
    go_loopg [13] (L + 1) (fun g v13 w' => ∃ i : Nat, v13 = .int .i64 (i : Int) ∧ Hid (i ≤ L ∧ L < g + i) ∧ Hid (l.take i = m.take i) ∧ Hid (Below w.heap.size w w'))
    case atStart => exact ⟨0, rfl, Lib.hid ⟨by omega, by omega⟩, Lib.hid rfl, Lib.hid (Below.refl _ _)⟩
    case round =>
      obtain ⟨i, rfl, HJ, HE, HB⟩ := hrel
      cases gk with
      | zero => have := HJ.out; omega
      | succ g1 =>
        by_cases hi : i < L
        · have HJ' := Lib.hid (show i < L ∧ L < (g1 + 1) + i from ⟨hi, HJ.out.2⟩)
          have z1 : (i : Int) < (L : Int) := by omega
          have z2 : (0 : Int) ≤ (i : Int) := by omega
          have hi1 : i < l.length := by have := HLm.out; have := HL.out; omega
          have hi2 : i < m.length := by have := HL.out; omega
          obtain ⟨b1, o1, rfl, hb1, hc1⟩ := (C_open (Kd.C_below HC1.out HB.out)).2.resolve_left (fun h => by rw [h] at hi1; exact absurd hi1 (by simp))
          obtain ⟨b2, o2, rfl, hb2, hc2⟩ := (C_open (Kd.C_below HC2.out HB.out)).2.resolve_left (fun h => by rw [h] at hi2; exact absurd hi2 (by simp))
          have q1 := gw hb1 (hc1 i hi1)
          have q2 := gw hb2 (hc2 i hi2)
          have HT := Lib.hid (fun hx => take_step hi1 hi2 HE.out hx)
          have HX := Lib.hid (fun (h : l.getD i 0 ≠ m.getD i 0) => ne_of_getD h)
          obtain ⟨x, hx⟩ : ∃ x, l.getD i 0 = x := ⟨_, rfl⟩
          obtain ⟨y, hy⟩ : ∃ y, m.getD i 0 = y := ⟨_, rfl⟩
          rw [hx] at q1
          rw [hy] at q2
          rw [hx, hy] at HT HX
          clear hx hy hb1 hc1 hb2 hc2 hi1 hi2 hi HJ
          by_cases hxy : x = y
          · subst hxy
            have HE2 := Lib.hid (HT.out rfl)
            clear HT HX
            go_wp2_with fail
            refine Q.wp_region_segs none [([0, 1, 2, 3, 4, 5, 6, 7, 8], none)] (by kernel_rfl) (by kernel_rfl) (by kernel_rfl) (by kernel_rfl) ?_
            dsimp only [Q.wpSegs, Q.picks, Q.pick]
            repeat (go_big_quiet_step (fail))
            refine wpQuiet_nil ?_
            refine NoPanic.normal ?_
            clear q1 q2
            go_wp2_with fail
            go_roundg g1
            case measure => have := HJ'.out; omega
            case rel => exact ⟨i + 1, by go_num, Lib.hid (by have := HJ'.out; omega), HE2, Lib.hid HB.out.drew⟩
          · have HN := Lib.hid (decide_eq_false (HX.out hxy))
            have nb1 : (x != y) = true := bne_iff_ne.2 hxy
            have nb2 : (x == y) = false := beq_eq_false_iff_ne.2 hxy
            clear HT HX
            go_wp2_with fail
            refine Q.wp_region_segs none [([0, 1, 2, 3, 4, 5, 6, 7, 8], none)] (by kernel_rfl) (by kernel_rfl) (by kernel_rfl) (by kernel_rfl) ?_
            dsimp only [Q.wpSegs, Q.picks, Q.pick]
            repeat (go_big_quiet_step (fail))
            refine wpQuiet_nil ?_
            refine NoPanic.normal ?_
            clear q1 q2
            go_wp2_with fail
            go_ret
            exact ⟨by rw [HN.out]; rfl, HB.out.drew⟩
        · obtain rfl : i = L := by have := HJ.out; omega
          have HN := Lib.hid (show decide (l = m) = true from decide_eq_true (by
            have := HE.out
            rwa [List.take_of_length_le (by have := HLm.out; have := HL.out; omega), List.take_of_length_le (by have := HL.out; omega)] at this))
          clear hi HJ HE
          go_wp2_with fail
          go_ret
          exact ⟨by rw [HN.out]; rfl, HB.out⟩
  · have HN := Lib.hid (show decide (l = m) = false from decide_eq_false (fun e => hl (by rw [e])))
    have t1 : ((l.length : Int) != (m.length : Int)) = true := bne_iff_ne.2 (by omega)
    have t2 : ((l.length : Int) == (m.length : Int)) = false := beq_eq_false_iff_ne.2 (by omega)
    have t3 : ¬ (l.length : Int) = (m.length : Int) := by omega
    obtain ⟨L1, hL1⟩ : ∃ L, l.length = L := ⟨_, rfl⟩
    obtain ⟨L2, hL2⟩ : ∃ L, m.length = L := ⟨_, rfl⟩
    rw [hL1, hL2] at t1 t2 t3 ⊢
    clear h1 h2 hl hmx hL1 hL2
    go_enter Try.func55, Try.ntmps55
    go_wp2_with fail
    go_ret
    exact ⟨by rw [HN.out]; rfl, Below.refl _ _⟩
/-- are events equal? -/
def eqE (a b : Ev) : Bool := decide (a.1 = b.1 ∧ a.2.1 = b.2.1 ∧ a.2.2.1 = b.2.2.1 ∧ a.2.2.2.1 = b.2.2.2.1 ∧ a.2.2.2.2.1 = b.2.2.2.2.1 ∧ a.2.2.2.2.2.2.toList = b.2.2.2.2.2.2.toList ∧ a.2.2.2.2.2.1 = b.2.2.2.2.2.1)
theorem eqE_self (a : Ev) : eqE a a = true := decide_eq_true ⟨rfl, rfl, rfl, rfl, rfl, rfl, rfl⟩
set_option maxRecDepth 100000 in
set_option maxHeartbeats 6400000 in
theorem same_any (a b : Ev) (A1 A2 : Option Addr) (c1 c2 : Nat) (w : World) (h1 : (Kd.int .i64).C w A1 a.2.2.2.2.2.1.length a.2.2.2.2.2.1) (h2 : (Kd.int .i64).C w A2 b.2.2.2.2.2.1.length b.2.2.2.2.2.1) :
    Calls Try.prog 36 #[.agg (evA a A1 c1), .agg (evA b A2 c2)] w fun e w' => e = .returned (.bool (eqE a b)) ∧ Below w.heap.size w w' := by
  obtain ⟨a0, a1, a2, a3, a4, l, s⟩ := a
  obtain ⟨b0, b1, b2, b3, b4, m, t⟩ := b
  simp only at h1 h2
  obtain ⟨E, hE⟩ : ∃ E, eqE (a0, a1, a2, a3, a4, l, s) (b0, b1, b2, b3, b4, m, t) = E := ⟨_, rfl⟩
  have HE := Lib.hid (show decide (a0 = b0 ∧ a1 = b1 ∧ a2 = b2 ∧ a3 = b3 ∧ a4 = b4 ∧ s.toList = t.toList ∧ l = m) = E from hE)
  rw [hE]
  have HS := Lib.hid (fun W (hb : Below w.heap.size w W) => seq_any l m A1 A2 c1 c2 W (Kd.C_below h1 hb) (Kd.C_below h2 hb))
  show Calls Try.prog _ #[.agg #[.int .i64 a0, .int .i32 a1, .int .u8 a2, .int .u8 a3, .int .u8 a4, .slice A1 l.length c1, .string s], .agg #[.int .i64 b0, .int .i32 b1, .int .u8 b2, .int .u8 b3, .int .u8 b4, .slice A2 m.length c2, .string t]] _ _
  clear hE h1 h2
  by_cases h0 : a0 = b0
  · subst h0
    by_cases h1 : a1 = b1
    · subst h1
      by_cases h2 : a2 = b2
      · subst h2
        by_cases h3 : a3 = b3
        · subst h3
          by_cases h4 : a4 = b4
          · subst h4
            by_cases h6 : s.toList = t.toList
            · have nq6 : (s.toList == t.toList) = true := beq_iff_eq.2 h6
              have Hn := Lib.hid (show decide (l = m) = E from by rw [← HE.out]; exact decide_eq_decide.2 ⟨fun h => ⟨rfl, rfl, rfl, rfl, rfl, h6, h⟩, fun h => h.2.2.2.2.2.2⟩)
              have HSa := Lib.hid (HS.out ((w.alloc (.cells #[.int .i64 a0, .int .i32 a1, .int .u8 a2, .int .u8 a3, .int .u8 a4, .slice A1 l.length c1, .string s] tE)).alloc (.cells #[.int .i64 a0, .int .i32 a1, .int .u8 a2, .int .u8 a3, .int .u8 a4, .slice A2 m.length c2, .string t] tE)) (((Below.refl _ _).alloc (Nat.le_refl _) _).alloc (by simp) _))
              clear HS
              obtain ⟨L1, hL1⟩ : ∃ L, l.length = L := ⟨_, rfl⟩
              obtain ⟨L2, hL2⟩ : ∃ L, m.length = L := ⟨_, rfl⟩
              rw [hL1, hL2] at HSa ⊢
              clear hL1 hL2
              go_enter Try.func36, Try.ntmps36
              go_wp2_with fail
              refine HSa.out.mono ?_
              rintro e w3 ⟨rfl, hb3⟩
              have HB3 := Lib.hid (below2 hb3)
              clear hb3
              go_wp2_with fail
              go_ret
              exact ⟨by rw [← Hn.out]; rfl, HB3.out⟩
            · have Hn := Lib.hid (show E = false from by rw [← HE.out]; exact decide_eq_false (fun h => h6 h.2.2.2.2.2.1))
              have nq6 : (s.toList == t.toList) = false := beq_eq_false_iff_ne.2 h6
              clear HS
              go_enter Try.func36, Try.ntmps36
              go_wp2_with fail
              go_ret
              exact ⟨by rw [Hn.out]; rfl, ((Below.refl _ _).alloc (Nat.le_refl _) _).alloc (by simp) _⟩
          · have Hn := Lib.hid (show E = false from by rw [← HE.out]; exact decide_eq_false (fun h => h4 h.2.2.2.2.1))
            have nb4 : (a4 != b4) = true := bne_iff_ne.2 h4
            have nq4 : (a4 == b4) = false := beq_eq_false_iff_ne.2 h4
            have nd4 : decide (a4 = b4) = false := decide_eq_false h4
            clear HS h4
            go_enter Try.func36, Try.ntmps36
            go_wp2_with fail
            go_ret
            exact ⟨by rw [Hn.out]; rfl, ((Below.refl _ _).alloc (Nat.le_refl _) _).alloc (by simp) _⟩
        · have Hn := Lib.hid (show E = false from by rw [← HE.out]; exact decide_eq_false (fun h => h3 h.2.2.2.1))
          have nb3 : (a3 != b3) = true := bne_iff_ne.2 h3
          have nq3 : (a3 == b3) = false := beq_eq_false_iff_ne.2 h3
          have nd3 : decide (a3 = b3) = false := decide_eq_false h3
          clear HS h3
          go_enter Try.func36, Try.ntmps36
          go_wp2_with fail
          go_ret
          exact ⟨by rw [Hn.out]; rfl, ((Below.refl _ _).alloc (Nat.le_refl _) _).alloc (by simp) _⟩
      · have Hn := Lib.hid (show E = false from by rw [← HE.out]; exact decide_eq_false (fun h => h2 h.2.2.1))
        have nb2 : (a2 != b2) = true := bne_iff_ne.2 h2
        have nq2 : (a2 == b2) = false := beq_eq_false_iff_ne.2 h2
        have nd2 : decide (a2 = b2) = false := decide_eq_false h2
        clear HS h2
        go_enter Try.func36, Try.ntmps36
        go_wp2_with fail
        go_ret
        exact ⟨by rw [Hn.out]; rfl, ((Below.refl _ _).alloc (Nat.le_refl _) _).alloc (by simp) _⟩
    · have Hn := Lib.hid (show E = false from by rw [← HE.out]; exact decide_eq_false (fun h => h1 h.2.1))
      have nb1 : (a1 != b1) = true := bne_iff_ne.2 h1
      have nq1 : (a1 == b1) = false := beq_eq_false_iff_ne.2 h1
      have nd1 : decide (a1 = b1) = false := decide_eq_false h1
      clear HS h1
      go_enter Try.func36, Try.ntmps36
      go_wp2_with fail
      go_ret
      exact ⟨by rw [Hn.out]; rfl, ((Below.refl _ _).alloc (Nat.le_refl _) _).alloc (by simp) _⟩
  · have Hn := Lib.hid (show E = false from by rw [← HE.out]; exact decide_eq_false (fun h => h0 h.1))
    have nb0 : (a0 != b0) = true := bne_iff_ne.2 h0
    have nq0 : (a0 == b0) = false := beq_eq_false_iff_ne.2 h0
    have nd0 : decide (a0 = b0) = false := decide_eq_false h0
    clear HS h0
    go_enter Try.func36, Try.ntmps36
    go_wp2_with fail
    go_ret
    exact ⟨by rw [Hn.out]; rfl, ((Below.refl _ _).alloc (Nat.le_refl _) _).alloc (by simp) _⟩
set_option maxRecDepth 100000 in
set_option maxHeartbeats 6400000 in
theorem equal_any (a b : Ev) (A1 A2 : Option Addr) (c1 c2 : Nat) (w : World) (h1 : (Kd.int .i64).C w A1 a.2.2.2.2.2.1.length a.2.2.2.2.2.1) (h2 : (Kd.int .i64).C w A2 b.2.2.2.2.2.1.length b.2.2.2.2.2.1) :
    Calls Try.prog 34 #[.agg (evA a A1 c1), .agg (evA b A2 c2)] w fun e w' => e = .returned (.bool (eqE a b)) ∧ Below w.heap.size w w' := by
  obtain ⟨a0, a1, a2, a3, a4, l, s⟩ := a
  obtain ⟨b0, b1, b2, b3, b4, m, t⟩ := b
  simp only at h1 h2
  obtain ⟨E, hE⟩ : ∃ E, eqE (a0, a1, a2, a3, a4, l, s) (b0, b1, b2, b3, b4, m, t) = E := ⟨_, rfl⟩
  have HE := Lib.hid (show decide (a0 = b0 ∧ a1 = b1 ∧ a2 = b2 ∧ a3 = b3 ∧ a4 = b4 ∧ s.toList = t.toList ∧ l = m) = E from hE)
  rw [hE]
  have HC1 := Lib.hid h1
  have HC2 := Lib.hid h2
  have hmx := (C_open h1).1
  show Calls Try.prog _ #[.agg #[.int .i64 a0, .int .i32 a1, .int .u8 a2, .int .u8 a3, .int .u8 a4, .slice A1 l.length c1, .string s], .agg #[.int .i64 b0, .int .i32 b1, .int .u8 b2, .int .u8 b3, .int .u8 b4, .slice A2 m.length c2, .string t]] _ _
  clear hE h1 h2
  by_cases h0 : a0 = b0
  · subst h0
    by_cases h1 : a1 = b1
    · subst h1
      by_cases h2 : a2 = b2
      · subst h2
        by_cases h3 : a3 = b3
        · subst h3
          by_cases h4 : a4 = b4
          · subst h4
            by_cases h6 : s.toList = t.toList
            · have nq6 : (s.toList == t.toList) = true := beq_iff_eq.2 h6
              by_cases hll : l.length = m.length
              · have HLm := Lib.hid hll
                have HEm := Lib.hid (show decide (l = m) = E from by rw [← HE.out]; exact decide_eq_decide.2 ⟨fun h => ⟨rfl, rfl, rfl, rfl, rfl, h6, h⟩, fun h => h.2.2.2.2.2.2⟩)
                obtain ⟨L, hL⟩ : ∃ L, m.length = L := ⟨_, rfl⟩
                have HL := Lib.hid hL
                rw [hL] at hll
                rw [hL, hll]
                have z0 : (L : Int) ≤ 9223372036854775807 := by omega
                clear hL hll hmx
                go_enter Try.func34, Try.ntmps34
                go_upto_region 4 with (fail)
                refine wp_at fun W hW => ?_
                have HB0 := Lib.hid (show Below w.heap.size w W from by rw [hW]; exact ((Below.refl _ _).alloc (Nat.le_refl _) _).alloc (by simp) _)
                obtain ⟨W1, hW1⟩ : ∃ W1, W1 = w.alloc (.cells #[.int .i64 a0, .int .i32 a1, .int .u8 a2, .int .u8 a3, .int .u8 a4, .slice A1 L c1, .string s] tF) := ⟨_, rfl⟩
                have hW2 : W = W1.alloc (.cells #[.int .i64 a0, .int .i32 a1, .int .u8 a2, .int .u8 a3, .int .u8 a4, .slice A2 L c2, .string t] tF) := by rw [hW1]; exact hW
                have hs1 : W1.heap.size = w.heap.size + 1 := by rw [hW1]; simp
                have k1 : W.heap[w.heap.size]? = some (.cells #[.int .i64 a0, .int .i32 a1, .int .u8 a2, .int .u8 a3, .int .u8 a4, .slice A1 L c1, .string s] tF (0, 0)) := by
                  rw [hW2]
                  exact blk_below (hW1 ▸ heap_alloc_new w _) ((Below.refl _ _).alloc (Nat.le_refl _) _)
                have k2 : W.heap[w.heap.size + 1]? = some (.cells #[.int .i64 a0, .int .i32 a1, .int .u8 a2, .int .u8 a3, .int .u8 a4, .slice A2 L c2, .string t] tF (0, 0)) := by
                  rw [hW2, ← hs1]
                  exact heap_alloc_new W1 _
                have HK1 := Lib.hid k1
                have HK2 := Lib.hid k2
                obtain ⟨n0, hn0⟩ : ∃ n, w.heap.size = n := ⟨_, rfl⟩
                rw [hn0] at HK1 HK2 ⊢
                have Hn0 := Lib.hid hn0
                clear hW hW1 hW2 hs1 k1 k2 hn0
                go_wp2_with fail
                go_loopg [5] (L + 1) (fun g v5 w' => ∃ i : Nat, v5 = .int .i64 (i : Int) ∧ Hid (i ≤ L ∧ L < g + i) ∧ Hid (l.take i = m.take i) ∧ Hid (Below W.heap.size W w'))
                case atStart => exact ⟨0, rfl, Lib.hid ⟨by omega, by omega⟩, Lib.hid rfl, Lib.hid (Below.refl _ _)⟩
                case round =>
                  obtain ⟨i, rfl, HJ, HP, HB⟩ := hrel
                  have kb1 := blk_below HK1.out HB.out
                  have kb2 := blk_below HK2.out HB.out
                  have d1 : wr.cell? ⟨n0, 5, none⟩ = some (.slice A1 L c1) := by rw [blk_cell kb1]; rfl
                  have d2 : wr.cell? ⟨n0 + 1, 5, none⟩ = some (.slice A2 L c2) := by rw [blk_cell kb2]; rfl
                  have HBw := Lib.hid (HB0.out.trans (HB.out.mono HB0.out.size))
                  cases gk with
                  | zero => have := HJ.out; omega
                  | succ g1 =>
                    by_cases hi : i < L
                    · have HJ' := Lib.hid (show i < L ∧ L < (g1 + 1) + i from ⟨hi, HJ.out.2⟩)
                      have z1 : (i : Int) < (L : Int) := by omega
                      have z2 : (0 : Int) ≤ (i : Int) := by omega
                      have hi1 : i < l.length := by have := HLm.out; have := HL.out; omega
                      have hi2 : i < m.length := by have := HL.out; omega
                      obtain ⟨b1, o1, rfl, hb1, hc1⟩ := (C_open (Kd.C_below HC1.out HBw.out)).2.resolve_left (fun h => by rw [h] at hi1; exact absurd hi1 (by simp))
                      obtain ⟨b2, o2, rfl, hb2, hc2⟩ := (C_open (Kd.C_below HC2.out HBw.out)).2.resolve_left (fun h => by rw [h] at hi2; exact absurd hi2 (by simp))
                      have q1 := gw hb1 (hc1 i hi1)
                      have q2 := gw hb2 (hc2 i hi2)
                      have q3 := gw (blk_lt kb1) d1
                      have q4 := gw (blk_lt kb2) d2
                      have HT := Lib.hid (fun hx => take_step hi1 hi2 HP.out hx)
                      have HX := Lib.hid (fun (h : l.getD i 0 ≠ m.getD i 0) => ne_of_getD h)
                      obtain ⟨x, hx⟩ : ∃ x, l.getD i 0 = x := ⟨_, rfl⟩
                      obtain ⟨y, hy⟩ : ∃ y, m.getD i 0 = y := ⟨_, rfl⟩
                      rw [hx] at q1
                      rw [hy] at q2
                      rw [hx, hy] at HT HX
                      clear hx hy hb1 hc1 hb2 hc2 hi1 hi2 hi HJ kb1 kb2
                      by_cases hxy : x = y
                      · subst hxy
                        have HE2 := Lib.hid (HT.out rfl)
                        clear HT HX
                        go_wp2_with fail
                        refine Q.wp_region_segs none [([0, 1, 2, 3, 4, 5, 6, 7, 8, 9, 10], none)] (by kernel_rfl) (by kernel_rfl) (by kernel_rfl) (by kernel_rfl) ?_
                        dsimp only [Q.wpSegs, Q.picks, Q.pick]
                        repeat (go_big_quiet_step (fail))
                        refine wpQuiet_nil ?_
                        refine NoPanic.normal ?_
                        clear q1 q2 q3 q4 d1 d2
                        go_wp2_with fail
                        go_roundg g1
                        case measure => have := HJ'.out; omega
                        case rel => exact ⟨i + 1, by go_num, Lib.hid (by have := HJ'.out; omega), HE2, Lib.hid HB.out.drew⟩
                      · have HN := Lib.hid (decide_eq_false (HX.out hxy))
                        have nb1 : (x != y) = true := bne_iff_ne.2 hxy
                        have nb2 : (x == y) = false := beq_eq_false_iff_ne.2 hxy
                        clear HT HX
                        go_wp2_with fail
                        refine Q.wp_region_segs none [([0, 1, 2, 3, 4, 5, 6, 7, 8, 9, 10], none)] (by kernel_rfl) (by kernel_rfl) (by kernel_rfl) (by kernel_rfl) ?_
                        dsimp only [Q.wpSegs, Q.picks, Q.pick]
                        repeat (go_big_quiet_step (fail))
                        refine wpQuiet_nil ?_
                        refine NoPanic.normal ?_
                        clear q1 q2 q3 q4 d1 d2
                        go_wp2_with fail
                        go_ret
                        exact ⟨by rw [← HEm.out, HN.out]; rfl, HBw.out.drew⟩
                    · obtain rfl : i = L := by have := HJ.out; omega
                      have HN := Lib.hid (show decide (l = m) = true from decide_eq_true (by
                        have := HP.out
                        rwa [List.take_of_length_le (by have := HLm.out; have := HL.out; omega), List.take_of_length_le (by have := HL.out; omega)] at this))
                      clear hi HJ HP kb1 kb2
                      go_wp2_with fail
                      go_ret
                      exact ⟨by rw [← HEm.out, HN.out]; rfl, HBw.out⟩
              · have Hn := Lib.hid (show E = false from by rw [← HE.out]; exact decide_eq_false (fun h => hll (by rw [h.2.2.2.2.2.2])))
                have t1 : ((l.length : Int) != (m.length : Int)) = true := bne_iff_ne.2 (by omega)
                have t2 : ((l.length : Int) == (m.length : Int)) = false := beq_eq_false_iff_ne.2 (by omega)
                have t3 : ¬ (l.length : Int) = (m.length : Int) := by omega
                obtain ⟨L1, hL1⟩ : ∃ L, l.length = L := ⟨_, rfl⟩
                obtain ⟨L2, hL2⟩ : ∃ L, m.length = L := ⟨_, rfl⟩
                rw [hL1, hL2] at t1 t2 t3 ⊢
                clear hll hmx hL1 hL2
                go_enter Try.func34, Try.ntmps34
                go_wp2_with fail
                go_ret
                exact ⟨by rw [Hn.out]; rfl, ((Below.refl _ _).alloc (Nat.le_refl _) _).alloc (by simp) _⟩
            · have Hn := Lib.hid (show E = false from by rw [← HE.out]; exact decide_eq_false (fun h => h6 h.2.2.2.2.2.1))
              have nq6 : (s.toList == t.toList) = false := beq_eq_false_iff_ne.2 h6
              clear hmx
              go_enter Try.func34, Try.ntmps34
              go_wp2_with fail
              go_ret
              exact ⟨by rw [Hn.out]; rfl, ((Below.refl _ _).alloc (Nat.le_refl _) _).alloc (by simp) _⟩
          · have Hn := Lib.hid (show E = false from by rw [← HE.out]; exact decide_eq_false (fun h => h4 h.2.2.2.2.1))
            have nb4 : (a4 != b4) = true := bne_iff_ne.2 h4
            have nq4 : (a4 == b4) = false := beq_eq_false_iff_ne.2 h4
            have nd4 : decide (a4 = b4) = false := decide_eq_false h4
            clear hmx h4
            go_enter Try.func34, Try.ntmps34
            go_wp2_with fail
            go_ret
            exact ⟨by rw [Hn.out]; rfl, ((Below.refl _ _).alloc (Nat.le_refl _) _).alloc (by simp) _⟩
        · have Hn := Lib.hid (show E = false from by rw [← HE.out]; exact decide_eq_false (fun h => h3 h.2.2.2.1))
          have nb3 : (a3 != b3) = true := bne_iff_ne.2 h3
          have nq3 : (a3 == b3) = false := beq_eq_false_iff_ne.2 h3
          have nd3 : decide (a3 = b3) = false := decide_eq_false h3
          clear hmx h3
          go_enter Try.func34, Try.ntmps34
          go_wp2_with fail
          go_ret
          exact ⟨by rw [Hn.out]; rfl, ((Below.refl _ _).alloc (Nat.le_refl _) _).alloc (by simp) _⟩
      · have Hn := Lib.hid (show E = false from by rw [← HE.out]; exact decide_eq_false (fun h => h2 h.2.2.1))
        have nb2 : (a2 != b2) = true := bne_iff_ne.2 h2
        have nq2 : (a2 == b2) = false := beq_eq_false_iff_ne.2 h2
        have nd2 : decide (a2 = b2) = false := decide_eq_false h2
        clear hmx h2
        go_enter Try.func34, Try.ntmps34
        go_wp2_with fail
        go_ret
        exact ⟨by rw [Hn.out]; rfl, ((Below.refl _ _).alloc (Nat.le_refl _) _).alloc (by simp) _⟩
    · have Hn := Lib.hid (show E = false from by rw [← HE.out]; exact decide_eq_false (fun h => h1 h.2.1))
      have nb1 : (a1 != b1) = true := bne_iff_ne.2 h1
      have nq1 : (a1 == b1) = false := beq_eq_false_iff_ne.2 h1
      have nd1 : decide (a1 = b1) = false := decide_eq_false h1
      clear hmx h1
      go_enter Try.func34, Try.ntmps34
      go_wp2_with fail
      go_ret
      exact ⟨by rw [Hn.out]; rfl, ((Below.refl _ _).alloc (Nat.le_refl _) _).alloc (by simp) _⟩
  · have Hn := Lib.hid (show E = false from by rw [← HE.out]; exact decide_eq_false (fun h => h0 h.1))
    have nb0 : (a0 != b0) = true := bne_iff_ne.2 h0
    have nq0 : (a0 == b0) = false := beq_eq_false_iff_ne.2 h0
    have nd0 : decide (a0 = b0) = false := decide_eq_false h0
    clear hmx h0
    go_enter Try.func34, Try.ntmps34
    go_wp2_with fail
    go_ret
    exact ⟨by rw [Hn.out]; rfl, ((Below.refl _ _).alloc (Nat.le_refl _) _).alloc (by simp) _⟩
end Go.Proofs.Ytbcononfgpfdbaa.An
