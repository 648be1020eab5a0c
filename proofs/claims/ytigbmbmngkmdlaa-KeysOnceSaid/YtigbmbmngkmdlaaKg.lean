/-
  keys, the reference: Type, Ack, Take.
-/
import Derived.Test.YtigbmbmngkmdlaaKe
namespace Go.Proofs.Ytigbmbmngkmdlaa.Ke
open Go.RowKit Go.Proofs.Ytigbmbmngkmdlaa.L Go.Proofs.YtigbmbmngkmdlaaW.PrintWords

/-- the document's stream in memory: all that was typed, the base -/
def Rf (b : Nat) (l : List Int) (n : Int) (w : World) : Prop := ∃ A c, w.heap[b]? = some (.cells #[.slice A l.length c, .int .u64 n] 54 (0, 0)) ∧ l.length ≤ c ∧ CT w A l
theorem Rf.lt {b : Nat} {l : List Int} {n : Int} {w : World} (h : Rf b l n w) : b < w.heap.size := by
  obtain ⟨A, c, h1, _⟩ := h
  exact (Array.getElem?_eq_some_iff.1 h1).1
theorem Rf.below {b : Nat} {l : List Int} {n : Int} {w w1 : World} (h : Rf b l n w) (hb : Below w.heap.size w w1) : Rf b l n w1 := by
  obtain ⟨A, c, h1, h2, h3⟩ := h
  exact ⟨A, c, (hb.block b (Array.getElem?_eq_some_iff.1 h1).1).trans h1, h2, h3.below hb⟩
theorem obj_ne {w : World} {b k : Nat} {c1 c2 : Array Value} {t1 t2 : TypeId} {f1 f2 : Nat × Nat} (h1 : w.heap[b]? = some (.cells c1 t1 f1)) (h2 : w.heap[k]? = some (.cells c2 t2 f2)) (hne : t1 ≠ t2) : b ≠ k := fun e => by
  subst e
  rw [h1] at h2
  injection h2 with h2
  injection h2 with _ h3 _
  exact hne h3
theorem Rf.st {b bs : Nat} {l l' : List Int} {n m : Int} {w w1 : World} (h : Rf b l n w) (hS : St bs m l' w) (hg : w.grownBy w1 (some bs)) : Rf b l n w1 := by
  have hS0 := hS
  obtain ⟨A, c, h1, h2, h3⟩ := h
  obtain ⟨_, _, hs, _⟩ := hS
  exact ⟨A, c, (hg.block b (Array.getElem?_eq_some_iff.1 h1).1 (fun e => obj_ne h1 hs (by decide) (by injection e))).trans h1, h2, h3.st hS0 hg⟩
theorem Rf.sk {b bk : Nat} {l : List Int} {n m : Int} {w w1 : World} (h : Rf b l n w) (hS : Sk bk m w) (hg : w.grownBy w1 (some bk)) : Rf b l n w1 := by
  obtain ⟨A, c, h1, h2, h3⟩ := h
  exact ⟨A, c, (hg.block b (Array.getElem?_eq_some_iff.1 h1).1 (fun e => obj_ne h1 (show w.heap[bk]? = _ from hS) (by decide) (by injection e))).trans h1, h2, h3.sk hS hg⟩
theorem CT.rf {w w1 : World} {A : Option Addr} {l l' : List Int} {b : Nat} {n : Int} (h : CT w A l) (hS : Rf b l' n w) (hg : w.grownBy w1 (some b)) : CT w1 A l := by
  obtain ⟨_, _, hb, _⟩ := hS
  have hm := grown_keep hg h.T hb (by decide)
  exact ⟨C_move h.C hm, h.T.move hm⟩
theorem St.rf {bs b : Nat} {m n : Int} {l l' : List Int} {w w1 : World} (h : St bs m l w) (hS : Rf b l' n w) (hg : w.grownBy w1 (some b)) : St bs m l w1 := by
  obtain ⟨A, c, h1, h2, h3, h4⟩ := h
  obtain ⟨_, _, hb, _⟩ := hS
  have hm := grown_keep hg h4 hb (by decide)
  exact ⟨A, c, (hg.block bs (Array.getElem?_eq_some_iff.1 h1).1 (fun e => obj_ne h1 hb (by decide) (by injection e))).trans h1, h2, C_move h3 hm, h4.move hm⟩
theorem Sk.rf {bk b : Nat} {m n : Int} {l' : List Int} {w w1 : World} (h : Sk bk m w) (hS : Rf b l' n w) (hg : w.grownBy w1 (some b)) : Sk bk m w1 := by
  obtain ⟨_, _, hb, _⟩ := hS
  exact (hg.block bk h.lt (fun e => obj_ne (show w.heap[bk]? = _ from h) hb (by decide) (by injection e))).trans h
theorem cells_rf {b : Nat} {n : Int} {v : Value} {w : World} {t : TypeId} (h : w.heap[b]? = some (.cells #[v, .int .u64 n] t (0, 0))) :
    w.cell? ⟨b, 0, none⟩ = some v ∧ w.cell? ⟨b, 1, none⟩ = some (.int .u64 n) ∧ ∀ i, w.frozen? ⟨b, i, none⟩ = false := by
  refine ⟨by simp [World.cell?, h], by simp [World.cell?, h], fun i => by simp [World.frozen?, h]⟩

set_option maxHeartbeats 800000 in
set_option maxRecDepth 100000 in
theorem rack_no (b : Nat) (n m : Int) (l : List Int) (E : Int) (w : World) (h : Rf b l n w) (hl : l.length < 18446744073709551616) (hE : (m < n ∧ E = 23) ∨ (n ≤ m ∧ l.length < m ∧ E = 1)) :
    Calls Try.prog 30 #[.pointer (some ⟨b, 0, none⟩), .int .u64 m] w fun e w' => e = .returned (.int .i64 E) ∧ w' = w := by
  obtain ⟨A, c, hb, _⟩ := h
  obtain ⟨k0, k1, _⟩ := cells_rf hb
  have s1 : IntKind.u64.wrap (l.length : Int) = l.length := wraps_u64 _ (by omega) (by omega)
  rcases hE with ⟨h1, rfl⟩ | ⟨h1, h2, rfl⟩
  · have t1 : decide (m < n) = true := by simpa using h1
    clear hb hl h1
    go_enter Try.func30, Try.ntmps30
    go_wp2
    go_ret
    exact ⟨rfl, rfl⟩
  · have t1 : decide (m < n) = false := by simpa using h1
    have t2 : decide ((l.length : Int) < m) = true := by simpa using h2
    clear hb hl h1 h2
    go_enter Try.func30, Try.ntmps30
    go_wp2
    go_ret
    exact ⟨rfl, rfl⟩
set_option maxHeartbeats 800000 in
set_option maxRecDepth 100000 in
theorem rack_ok (b : Nat) (n m : Int) (l : List Int) (w : World) (h : Rf b l n w) (hl : l.length < 18446744073709551616) (h1 : n ≤ m) (h2 : m ≤ l.length) :
    Calls Try.prog 30 #[.pointer (some ⟨b, 0, none⟩), .int .u64 m] w fun e w' => e = .returned (.int .i64 0) ∧ Rf b l m w' ∧ w.grownBy w' (some b) := by
  obtain ⟨A, c, hb, hc, hCT⟩ := h
  obtain ⟨k0, k1, kf⟩ := cells_rf hb
  have f1 := kf 1
  have s1 : IntKind.u64.wrap (l.length : Int) = l.length := wraps_u64 _ (by omega) (by omega)
  have t1 : decide (m < n) = false := by simpa using h1
  have t2 : decide ((l.length : Int) < m) = false := by simpa using h2
  have HB := Lib.hid hb
  have HC := Lib.hid hCT
  have HK := Lib.hid hc
  clear hb hl h1 h2 hc hCT kf
  go_enter Try.func30, Try.ntmps30
  go_wp2
  go_ret
  have hg := gr_set w b 1 (.int .u64 m)
  have hm := grown_keep hg HC.out.T HB.out (by decide)
  refine ⟨rfl, ⟨A, c, ?_, HK.out, C_move HC.out.C hm, HC.out.T.move hm⟩, hg⟩
  simpa using blk_set HB.out 1 (.int .u64 m)
set_option maxHeartbeats 800000 in
set_option maxRecDepth 100000 in
theorem rtype_no (b : Nat) (n : Int) (l : List Int) (A2 : Option Addr) (m c2 : Nat) (w : World) (h : Rf b l n w) (h0 : 0 ≤ n) (h1 : n ≤ l.length) (hl : l.length + m < 18446744073709551616) (hno : 512 < l.length - n + m) :
    Calls Try.prog 29 #[.pointer (some ⟨b, 0, none⟩), .slice A2 m c2] w fun e w' => e = .returned (.int .i64 5) ∧ Below w.heap.size w w' := by
  obtain ⟨A, c, hb, _⟩ := h
  obtain ⟨k0, k1, _⟩ := cells_rf hb
  have s1 : IntKind.u64.wrap (l.length : Int) = l.length := wraps_u64 _ (by omega) (by omega)
  have s2 : IntKind.u64.wrap (m : Int) = m := wraps_u64 _ (by omega) (by omega)
  have s3 : IntKind.u64.wrap ((l.length : Int) - n) = l.length - n := wraps_u64 _ (by omega) (by omega)
  have s4 : IntKind.u64.wrap ((l.length : Int) - n + m) = l.length - n + m := wraps_u64 _ (by omega) (by omega)
  have t1 : decide ((512 : Int) < (l.length : Int) - n + m) = true := by simpa using hno
  have q0 : ∀ m : Q.GW w.drew w.heap.size none, m.w.cell? ⟨b, 0, none⟩ = some (.slice A l.length c) := fun m => pw_cell_below (stay1 (stay0 w) m.below) k0
  have q1 : ∀ m : Q.GW w.drew w.heap.size none, m.w.cell? ⟨b, 1, none⟩ = some (.int .u64 n) := fun m => pw_cell_below (stay1 (stay0 w) m.below) k1
  clear hb h1 hl hno h0
  go_enter Try.func29, Try.ntmps29
  go_wp2_with fail
  refine Q.wp_region_segs none [([0, 1, 2, 3, 4, 5, 6, 7, 8, 9, 10, 11, 12, 13, 14, 15], none)] (by kernel_rfl) (by kernel_rfl) (by kernel_rfl) (by kernel_rfl) ?_
  dsimp only [Q.wpSegs, Q.picks, Q.pick]
  repeat (go_big_quiet_step (fail))
  refine wpQuiet_nil ?_
  refine NoPanic.normal ?_
  go_wp2
  go_ret
  exact ⟨rfl, stay0 w⟩
set_option maxHeartbeats 1600000 in
set_option maxRecDepth 100000 in
theorem rtype_yes (b : Nat) (n : Int) (l l2 : List Int) (A2 : Option Addr) (c2 : Nat) (w : World) (h : Rf b l n w) (_ : 0 ≤ n) (h1 : n ≤ l.length) (hl : l.length + l2.length ≤ 140737488355328) (hyes : l.length - n + l2.length ≤ 512) (hC2 : (Kd.int .u8).C w A2 l2.length l2) :
    Calls Try.prog 29 #[.pointer (some ⟨b, 0, none⟩), .slice A2 l2.length c2] w fun e w' => e = .returned (.int .i64 0) ∧ Rf b (l ++ l2) n w' ∧ w.grownBy w' (some b) := by
  obtain ⟨A, c, hb, hc, hCT⟩ := h
  obtain ⟨k0, k1, _⟩ := cells_rf hb
  have s1 : IntKind.u64.wrap (l.length : Int) = l.length := wraps_u64 _ (by omega) (by omega)
  have s2 : IntKind.u64.wrap (l2.length : Int) = l2.length := wraps_u64 _ (by omega) (by omega)
  have s3 : IntKind.u64.wrap ((l.length : Int) - n) = l.length - n := wraps_u64 _ (by omega) (by omega)
  have s4 : IntKind.u64.wrap ((l.length : Int) - n + l2.length) = l.length - n + l2.length := wraps_u64 _ (by omega) (by omega)
  have t1 : decide ((512 : Int) < (l.length : Int) - n + l2.length) = false := by simpa using hyes
  have q0 : ∀ m : Q.GW w.drew w.heap.size none, m.w.cell? ⟨b, 0, none⟩ = some (.slice A l.length c) := fun m => pw_cell_below (stay1 (stay0 w) m.below) k0
  have q1 : ∀ m : Q.GW w.drew w.heap.size none, m.w.cell? ⟨b, 1, none⟩ = some (.int .u64 n) := fun m => pw_cell_below (stay1 (stay0 w) m.below) k1
  have HB := Lib.hid hb
  have HC := Lib.hid (hCT.below (stay0 w))
  have HC2 := Lib.hid (Kd.C_drew hC2)
  have HL := Lib.hid hl
  clear hb h1 hl hyes hc hCT hC2
  go_enter Try.func29, Try.ntmps29
  go_wp2_with fail
  refine Q.wp_region_segs none [([0, 1, 2, 3, 4, 5, 6, 7, 8, 9, 10, 11, 12, 13, 14, 15], none)] (by kernel_rfl) (by kernel_rfl) (by kernel_rfl) (by kernel_rfl) ?_
  dsimp only [Q.wpSegs, Q.picks, Q.pick]
  repeat (go_big_quiet_step (fail))
  refine wpQuiet_nil ?_
  refine NoPanic.normal ?_
  clear q0 q1 s1 s2 s3 s4
  have k0 : w.drew.cell? ⟨b, 0, none⟩ = some (.slice A l.length c) := k0
  go_wp2_with (first
    | (at_builtin; refine appn (w0 := w.drew) .u8 w.heap.size (.tmp 22) (.tmp 26) 25 5 1 rfl rfl Try.underlying25 info_u8 (by decide) (.slice none 0 0) [] l A l.length c rfl rfl (Kd.R_nil _ _ _ _ _) HC.out.C (Below.refl _ _) (Nat.le_refl _) (by have := HL.out; simp; omega) ?_; intro v1 w1 ho1 hb1 _; (have HO1 := Lib.hid ho1); (have HB1 := Lib.hid (show Below w.drew.heap.size w.drew w1 from hb1)); clear ho1 hb1)
    | (at_builtin; refine appn (w0 := w.drew) .u8 w.heap.size (.tmp 29) (.tmp 30) 25 5 1 rfl rfl Try.underlying25 info_u8 (by decide) _ ([] ++ l) l2 A2 l2.length c2 rfl rfl HO1.out (Kd.C_below HC2.out HB1.out) HB1.out HB1.out.size (by have := HL.out; simp; omega) ?_; intro v2 w2 ho2 hb2 _; obtain ⟨A3, c3, rfl, hk3, hC3⟩ := Kd.R_reads ho2; (have HO2 := Lib.hid (CT.mk hC3 (Ty_R ho2))); (have HK2 := Lib.hid hk3); (have HB2 := Lib.hid (show Below w.drew.heap.size w.drew w2 from hb2)); (have HBb := Lib.hid ((hb2.block b (Array.getElem?_eq_some_iff.1 HB.out).1).trans HB.out)); (have r0 := (cells_rf HBb.out).1); (have g0 := (cells_rf HBb.out).2.2 0); clear ho2 hb2 hC3 hk3))
  go_ret
  have hlen : ([] ++ l ++ l2).length = l.length + l2.length := by simp
  have hg := gr_set w2 b 0 (.slice A3 (l.length + l2.length) c3)
  have hm := grown_keep hg HO2.out.T HBb.out (by decide)
  have hfin := blk_set HBb.out 0 (.slice A3 (l.length + l2.length) c3)
  exact ⟨rfl, ⟨A3, c3, by rw [List.length_append]; simpa using hfin, HK2.out, ⟨C_move HO2.out.C hm, HO2.out.T.move hm⟩⟩, (gr_drew w (some b)).trans ((gr_below HB2.out (some b)).trans hg)⟩

set_option maxHeartbeats 1600000 in
set_option maxRecDepth 100000 in
theorem rtake_any (kn fr : Int) (l : List Int) (A : Option Addr) (c : Nat) (w : World) (hC : (Kd.int .u8).C w A l.length l) (h0 : 0 ≤ kn) (h1 : kn < 18446744073709551616) (hf : 0 ≤ fr) :
    Calls Try.prog 32 #[.int .u64 kn, .int .u64 fr, .slice A l.length c] w fun e w' => ∃ v0 : Value, e = .returned (.tuple #[v0, .int .i64 (stR kn fr l).2.1]) ∧ (Kd.int .u8).R 5 w' w.heap.size (fun _ => True) v0 (stR kn fr l).1 ∧ Below w.heap.size w w' := by
  obtain ⟨R, hR⟩ : ∃ R, stR kn fr l = R := ⟨_, rfl⟩
  rw [hR]
  have hR' := hR
  unfold stR at hR'
  clear hR
  by_cases a1 : (512 : Int) < l.length
  · rw [if_pos a1] at hR'
    subst hR'
    have t1 : decide ((512 : Int) < (l.length : Int)) = true := by simpa using a1
    clear hC h0 h1 hf a1
    go_enter Try.func32, Try.ntmps32
    go_wp2
    go_ret2
    exact ⟨_, rfl, Kd.R_nil _ _ _ _ _, Below.refl _ _⟩
  rw [if_neg a1] at hR'
  have t1 : decide ((512 : Int) < (l.length : Int)) = false := by simpa using a1
  by_cases a2 : kn < fr
  · rw [if_pos a2] at hR'
    subst hR'
    have t2 : decide (kn < fr) = true := by simpa using a2
    clear hC h0 h1 hf a1 a2
    go_enter Try.func32, Try.ntmps32
    go_wp2
    go_ret2
    exact ⟨_, rfl, Kd.R_nil _ _ _ _ _, Below.refl _ _⟩
  rw [if_neg a2] at hR'
  have t2 : decide (kn < fr) = false := by simpa using a2
  have s1 : IntKind.u64.wrap (kn - fr) = kn - fr := wraps_u64 _ (by omega) (by omega)
  obtain ⟨q, hq⟩ : ∃ q : Nat, kn - fr = q := Int.eq_ofNat_of_zero_le (by omega)
  have HR := Lib.hid (show R.1 = l.drop q ∧ R.2.1 = 0 from by
    rw [hq] at hR'
    by_cases a3 : (l.length : Int) ≤ (q : Int)
    · rw [if_pos a3] at hR'
      subst hR'
      exact ⟨(List.drop_eq_nil_of_le (by omega)).symm, rfl⟩
    · rw [if_neg a3] at hR'
      subst hR'
      exact ⟨by simp, rfl⟩)
  obtain ⟨hmx, ho⟩ := C_open hC
  have HO := Lib.hid ho
  have HL := Lib.hid (show l.length ≤ 512 by omega)
  have s1 : IntKind.u64.wrap (kn - fr) = (q : Int) := s1.trans hq
  clear hC h0 h1 hf a1 a2 hR' ho hq
  go_enter Try.func32, Try.ntmps32
  go_wp2_with fail
  go_loopg [8, 9] (l.length + 1) (fun g v8 v9 w' => ∃ m : Nat, v9 = .int .i64 m ∧ Hid (m ≤ l.length ∧ l.length < g + m) ∧ Hid ((Kd.int .u8).R 5 w' w.heap.size (fun _ => True) v8 ((l.take m).drop q)) ∧ Hid (Below w.heap.size w w'))
  case atStart => exact ⟨0, rfl, Lib.hid ⟨by omega, by omega⟩, Lib.hid (by simpa using Kd.R_nil _ _ _ _ _), Lib.hid (Below.refl _ _)⟩
  case round =>
    obtain ⟨m, rfl, HJ, HW, HB⟩ := hrel
    cases gk with
    | zero => have := HJ.out; omega
    | succ g =>
      obtain ⟨hj1, hj2⟩ := HJ.out
      clear HJ
      by_cases hlt : m < l.length
      · have s2 : IntKind.u64.wrap (m : Int) = m := wraps_u64 _ (by omega) (by omega)
        have htk : l.take (m + 1) = l.take m ++ [l.getD m 0] := by
          rw [List.take_add_one, List.getD_eq_getElem?_getD, List.getElem?_eq_getElem hlt]; rfl
        have hlen : (l.take m).length = m := by rw [List.length_take]; omega
        rcases HO.out with e | ⟨bk, off, rfl, _, hcells⟩
        · subst e; simp at hlt
        have k0 := pw_cell_below HB.out (hcells m hlt)
        by_cases hmq : m < q
        · have t3 : decide ((q : Int) ≤ (m : Int)) = false := decide_eq_false (by omega)
          have t4 : decide (q ≤ m) = false := decide_eq_false (by omega)
          have HN := Lib.hid (show (l.take (m + 1)).drop q = (l.take m).drop q from by
            rw [List.drop_eq_nil_of_le (by rw [List.length_take]; omega), List.drop_eq_nil_of_le (by rw [List.length_take]; omega)])
          clear htk hlen hcells
          go_wp2_with fail
          go_roundg g
          case measure => omega
          case rel => exact ⟨m + 1, by go_num, Lib.hid ⟨by omega, by omega⟩, Lib.hid (by rw [HN.out]; exact HW.out), HB⟩
        · have t3 : decide ((q : Int) ≤ (m : Int)) = true := decide_eq_true (by omega)
          have t4 : decide (q ≤ m) = true := decide_eq_true (by omega)
          have HN := Lib.hid (show (l.take (m + 1)).drop q = (l.take m).drop q ++ [l.getD m 0] from by
            rw [htk, List.drop_append_of_le_length (by omega)])
          have HDL := Lib.hid (show ((l.take m).drop q).length ≤ 512 from by have := HL.out; simp; omega)
          clear htk hlen hcells
          generalize l.getD m 0 = y at k0 HN
          go_wp2_with (at_builtin; refine app1 (w0 := w) .u8 w.heap.size (.tmp 28) (.tmp 33) 25 5 1 rfl rfl Try.underlying25 info_u8 (by decide) u8 ((l.take m).drop q) y rfl rfl HW.out HB.out HB.out.size (by have := HDL.out; omega) ?_; intro v2 w3 ho2 hb2 _; (have HB3 := Lib.hid hb2); (have HR3 := Lib.hid ho2); clear ho2 hb2)
          go_roundg g
          case measure => omega
          case rel => exact ⟨m + 1, by go_num, Lib.hid ⟨by omega, by omega⟩, Lib.hid (by rw [HN.out]; exact HR3.out), HB3⟩
      · have hmc : m = l.length := by omega
        subst hmc
        rw [List.take_length] at HW
        go_wp2
        go_ret2
        rw [HR.out.2, HR.out.1]
        exact ⟨_, rfl, HW.out, HB.out⟩
end Go.Proofs.Ytigbmbmngkmdlaa.Ke
