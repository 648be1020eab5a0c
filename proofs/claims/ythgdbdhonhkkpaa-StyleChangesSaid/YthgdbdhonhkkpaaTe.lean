/-
  style: Change.
-/
import Derived.Test.YthgdbdhonhkkpaaTd
namespace Go.Proofs.Ythgdbdhonhkkpaa.St
open Go.RowKit Go.Proofs.Ythgdbdhonhkkpaa.L Go.Proofs.Ythgdbdhonhkkpaa.V Go.Proofs.Ythgdbdhonhkkpaa.N Go.Proofs.YthgdbdhonhkkpaaW.PrintWords

theorem OB.load {b : Nat} {s : Sty} {w : World} (h : OB b s w) : (loadVar tS ⟨b, 0, none⟩).run Try.prog w = .ok (.agg (stA s)) w :=
  run_loadVar_row _ _ _ _ _ _ _ h Try.underlying57 rfl (by kernel_rfl)
theorem OB.grown {b c : Nat} {s : Sty} {w w1 : World} (h : OB b s w) (hg : w.grownBy w1 (some c)) (hne : b ≠ c) : OB b s w1 := (hg.block b h.lt (fun e => hne (by injection e))).trans h
theorem OB.mk (w : World) (s : Sty) : OB w.heap.size s (w.alloc (.cells (stA s) tS)) := heap_alloc_new w _
/-- two objects that are made -/
theorem two_OB {W w : World} (s t : Sty) (h : W = (w.alloc (.cells (stA s) tS)).alloc (.cells (stA t) tS)) : OB w.heap.size s W ∧ OB (w.heap.size + 1) t W ∧ Below w.heap.size w W ∧ W.heap.size = w.heap.size + 2 := by
  subst h
  have e := alloc_size w (.cells (stA s) tS)
  refine ⟨blk_alloc (OB.mk w s) _, ?_, ((Below.refl _ _).alloc (Nat.le_refl _) _).alloc (by omega) _, by rw [alloc_size, e]⟩
  have := OB.mk (w.alloc (.cells (stA s) tS)) t
  rwa [e] at this
structure CI (l : List Int) (s G : Sty) (w : World) (r : List Int) (A1 : Option Addr) (c1 : Nat) (w' : World) : Prop where
  row : (Kd.int .i64).C w A1 r.length r
  cap : r.length ≤ c1
  ob : ∃ s1, OB w.heap.size s1 w' ∧ okS s1 ∧ chgG r s1 = G
  res : OB (w.heap.size + 1) (0, 0, 0) w'
  bel : Below w.heap.size w w'
set_option maxRecDepth 100000 in
set_option maxHeartbeats 3200000 in
theorem change_any (s : Sty) (l : List Int) (A : Option Addr) (c : Nat) (w : World) (hs : okS s) (hC : (Kd.int .i64).C w A l.length l) (hc : l.length ≤ c) :
    Calls Try.prog 37 #[.agg (stA s), .slice A l.length c] w fun e w' => e = .returned (.agg (stA (chgS s l))) ∧ Below w.heap.size w w' := by
  by_cases h0 : l = []
  · subst h0
    clear hC hc hs
    rw [show (Value.agg (stA s)) = .agg #[.int .u8 (s.1 : Int), .int .u32 (s.2.1 : Int), .int .u32 (s.2.2 : Int)] from rfl]
    go_enter Try.func37, Try.ntmps37
    go_wp2_with fail
    refine wp_at fun W hW => ?_
    obtain ⟨x1, x2, x3, x4⟩ := two_OB s (0, 0, 0) hW
    have k0 := x2.c0
    have k1 := x2.c1
    have k2 := x2.c2
    have f0 := x2.fz 0
    have f1 := x2.fz 1
    have f2 := x2.fz 2
    have X2 := Lib.hid x2
    have X3 := Lib.hid x3
    clear hW x1 x2 x3 x4
    refine wp_scope_straight ?_
    go_wp2_with fail
    have hl := (((X2.out.s0 0).s1 0).s2 0).load
    have hb := ((X3.out.setCell (p := ⟨w.heap.size + 1, 0, none⟩) (Nat.le_succ _) (.int .u8 0)).setCell (p := ⟨w.heap.size + 1, 1, none⟩) (Nat.le_succ _) (.int .u32 0)).setCell (p := ⟨w.heap.size + 1, 2, none⟩) (Nat.le_succ _) (.int .u32 0)
    exact bodyPost_ret (v := .agg (stA (0, 0, 0))) (by simp [results, Try.results37, asAddr]; exact hl) rfl ⟨rfl, hb⟩
  have HG := Lib.hid (show chgS s l = chgG l s from if_neg h0)
  have h0' : 0 < l.length := List.length_pos_iff.2 h0
  have t0 : ((l.length : Int) == 0) = false := by rw [beq_eq_false_iff_ne]; omega
  have t0n : (l.length == 0) = false := by rw [beq_eq_false_iff_ne]; omega
  have HC := Lib.hid hC
  have HK := Lib.hid hc
  have HS := Lib.hid hs
  clear hC hc hs h0 h0'
  rw [show (Value.agg (stA s)) = .agg #[.int .u8 (s.1 : Int), .int .u32 (s.2.1 : Int), .int .u32 (s.2.2 : Int)] from rfl]
  go_enter Try.func37, Try.ntmps37
  go_wp2_with fail
  refine wp_at fun W hW => ?_
  obtain ⟨x1, x2, x3, x4⟩ := two_OB s (0, 0, 0) hW
  have M0 := Lib.hid (show CI l s (chgG l s) w l A c W from ⟨HC.out, HK.out, ⟨s, x1, HS.out, rfl⟩, x2, x3⟩)
  clear hW x1 x2 x3 x4
  refine wp_scope_straight ?_
  go_wp2_with fail
  refine wp_label ?_
  go_wp2_with fail
  go_loopg [5] (l.length + 1) (fun g v5 w' => ∃ (r : List Int) (A1 : Option Addr) (c1 : Nat), v5 = .slice A1 r.length c1 ∧ Hid (r.length < g) ∧ Hid (CI l s (chgG l s) w r A1 c1 w'))
  case atStart => exact ⟨l, A, c, rfl, Lib.hid (Nat.lt_succ_self _), M0⟩
  case round =>
    obtain ⟨r, A1, c1, rfl, HJ, HI⟩ := hrel
    clear M0 HC HK HS t0 t0n
    cases gk with
    | zero => have := HJ.out; omega
    | succ k =>
      have hI := HI.out
      have hmx := (C_open hI.row).1
      obtain ⟨s1, hO, hok, hG⟩ := hI.ob
      cases r with
      | nil =>
        rw [chgG_nil] at hG
        have HG3 := Lib.hid hG
        have d0 := hO.c0
        have d1 := hO.c1
        have d2 := hO.c2
        have k0 := hI.res.c0
        have k1 := hI.res.c1
        have k2 := hI.res.c2
        have f0 := hI.res.fz 0
        have f1 := hI.res.fz 1
        have f2 := hI.res.fz 2
        clear hI hmx hO hok hG
        go_wp2_with fail
        have hI := HI.out
        have hl := (((hI.res.s0 s1.1).s1 s1.2.1).s2 s1.2.2).load
        have hb := ((hI.bel.setCell (p := ⟨w.heap.size + 1, 0, none⟩) (Nat.le_succ _) (.int .u8 (s1.1 : Int))).setCell (p := ⟨w.heap.size + 1, 1, none⟩) (Nat.le_succ _) (.int .u32 (s1.2.1 : Int))).setCell (p := ⟨w.heap.size + 1, 2, none⟩) (Nat.le_succ _) (.int .u32 (s1.2.2 : Int))
        exact bodyPost_ret (v := .agg (stA s1)) (by simp [results, Try.results37, asAddr]; exact hl) rfl ⟨by rw [HG.out, ← HG3.out], hb⟩
      | cons n r =>
        obtain ⟨b, off, rfl, hb, hcell⟩ := (C_open hI.row).2.resolve_left (by simp)
        have c0 : w.cell? ⟨b, off, none⟩ = _ := hcell 0 (by simp)
        have c0 : wr.cell? ⟨b, off, none⟩ = some (.int .i64 n) := (hI.bel.cell (p := ⟨b, off, none⟩) hb).trans c0
        obtain ⟨A2, c2, hcf, hc2, hCf⟩ := cutI (some ⟨b, off, none⟩) (r.length + 1) c1 1 1 rfl (by omega) hI.cap
        have hC2 := hCf w (n :: r) hI.row
        rw [Nat.add_sub_cancel] at hcf hc2 hC2
        rw [List.drop_succ_cons, List.drop_zero] at hC2
        have z1 : (r.length : Int) + 1 ≤ 9223372036854775807 := by simp at hmx; omega
        have z2 : (0 : Int) ≤ (r.length : Int) := by omega
        have HR := Lib.hid hI.res
        have HB := Lib.hid hI.bel
        have HO := Lib.hid hO
        have HOk := Lib.hid hok
        have HC2 := Lib.hid hC2
        have Hc2 := Lib.hid hc2
        have t0 : decide ((0 : Int) < ((r.length + 1 : Nat) : Int)) = true := decide_eq_true (by omega)
        have t0n : decide (0 < r.length + 1) = true := decide_eq_true (by omega)
        rw [List.length_cons]
        by_cases hn : n = 38 ∨ n = 48
        · rw [chgG_col _ _ hn] at hG
          have hq := fun (W : World) (hb : Below w.heap.size w W) => colour_any r A2 c2 W (Kd.C_below hC2 hb) hc2
          have hset := set_ok n r hok
          have hle := colR_le r
          unfold setC at hG hset
          obtain ⟨⟨cc, mm, ok⟩, hcr⟩ : ∃ p, colR r = p := ⟨_, rfl⟩
          rw [hcr] at hq hset hle hG
          dsimp only at hq hset hle hG
          obtain ⟨A3, c3, hcf3, hc3, hCf3⟩ := cutI A2 r.length c2 (mm : Int) mm rfl hle hc2
          have hC3 := hCf3 w r hC2
          have z3 : (mm : Int) ≤ (r.length : Int) := by omega
          have HQ := Lib.hid hq
          have HG2 := Lib.hid hG
          have HSet := Lib.hid hset
          have HC3 := Lib.hid (show (Kd.int .i64).C w A3 (r.drop mm).length (r.drop mm) ∧ (r.drop mm).length ≤ c3 from by rw [List.length_drop]; exact ⟨hC3, hc3⟩)
          have HLe := Lib.hid hle
          have HN := Lib.hid (show (r.length - mm : Nat) = (r.drop mm).length from by rw [List.length_drop])
          clear hq hG hset hcr hC3 hc3 hCf3 hle hI hmx hO hok hcell hb hC2 hc2 hCf HI HC2 Hc2
          have hnn := hn
          have t2 : (n != 38 && n != 48) = false := by rcases hnn with h | h <;> subst h <;> rfl
          cases ok with
          | false =>
            rw [if_neg (by decide)] at HG2 HSet
            rcases hn with hn | hn <;> subst hn
            all_goals
              clear hnn t2
              go_wp2_with (go_at_call 67; refine (HQ.out _ HB.out).mono ?_; rintro e w1 ⟨rfl, hb1⟩; (have HB1 := Lib.hid hb1); clear hb1 HQ)
              go_roundg k
              case measure => have := HJ.out; simp at this; omega
              case rel => exact ⟨r.drop mm, A3, c3, by rw [HN.out], Lib.hid (by have := HJ.out; simp at this; rw [List.length_drop]; omega), Lib.hid ⟨HC3.out.1, HC3.out.2, ⟨s1, HO.out.below HB1.out, HSet.out, HG2.out⟩, HR.out.below HB1.out, HB.out.trans (HB1.out.mono HB.out.size)⟩⟩
          | true =>
            rw [if_pos rfl] at HG2 HSet
            rcases hn with hn | hn <;> subst hn
            · rw [if_pos rfl] at HG2 HSet
              clear hnn t2
              go_wp2_with (go_at_call 67; refine (HQ.out _ HB.out).mono ?_; rintro e w1 ⟨rfl, hb1⟩; (have HB1 := Lib.hid hb1); (have d1 := (HO.out.below hb1).c1); (have g1 := (HO.out.below hb1).fz 1); clear hb1 HQ)
              go_roundg k
              case measure => have := HJ.out; simp at this; omega
              case rel =>
                have ho := (HO.out.below HB1.out).s1 cc
                have hg := grown_set w1 w.heap.size 1 (.int .u32 (cc : Int))
                have hb := HB.out.trans (HB1.out.mono HB.out.size)
                exact ⟨r.drop mm, A3, c3, by rw [HN.out], Lib.hid (by have := HJ.out; simp at this; rw [List.length_drop]; omega), Lib.hid ⟨HC3.out.1, HC3.out.2, ⟨_, ho, HSet.out, HG2.out⟩, (HR.out.below HB1.out).grown hg (by omega), below_grown hb hb.size hg (Nat.le_refl _)⟩⟩
            · rw [if_neg (by decide)] at HG2 HSet
              clear hnn t2
              go_wp2_with (go_at_call 67; refine (HQ.out _ HB.out).mono ?_; rintro e w1 ⟨rfl, hb1⟩; (have HB1 := Lib.hid hb1); (have d2 := (HO.out.below hb1).c2); (have g2 := (HO.out.below hb1).fz 2); clear hb1 HQ)
              go_roundg k
              case measure => have := HJ.out; simp at this; omega
              case rel =>
                have ho := (HO.out.below HB1.out).s2 cc
                have hg := grown_set w1 w.heap.size 2 (.int .u32 (cc : Int))
                have hb := HB.out.trans (HB1.out.mono HB.out.size)
                exact ⟨r.drop mm, A3, c3, by rw [HN.out], Lib.hid (by have := HJ.out; simp at this; rw [List.length_drop]; omega), Lib.hid ⟨HC3.out.1, HC3.out.2, ⟨_, ho, HSet.out, HG2.out⟩, (HR.out.below HB1.out).grown hg (by omega), below_grown hb hb.size hg (Nat.le_refl _)⟩⟩
        · have t2 : (n != 38) = true := by rw [bne_iff_ne]; omega
          have t3 : (n != 48) = true := by rw [bne_iff_ne]; omega
          rw [chgG_plain _ _ hn] at hG
          have HG2 := Lib.hid hG
          clear hI hmx hO hok hcell hb hn hC2 hc2 hCf hG HI
          go_wp2_with (go_at_call 66; refine (plain_any w.heap.size s1 n wr HO.out HOk.out.1).mono ?_; rintro e w1 ⟨rfl, hO1, hg1⟩; (have HO1 := Lib.hid hO1); (have Hg1 := Lib.hid hg1); clear hO1 hg1)
          go_roundg k
          case measure => have := HJ.out; simp at this; omega
          case rel => exact ⟨r, A2, c2, rfl, Lib.hid (by have := HJ.out; simp at this; omega), Lib.hid ⟨HC2.out, Hc2.out, ⟨plainS s1 n, HO1.out, plain_ok n HOk.out, HG2.out⟩, HR.out.grown Hg1.out (by omega), below_grown HB.out HB.out.size Hg1.out (Nat.le_refl _)⟩⟩
end Go.Proofs.Ythgdbdhonhkkpaa.St
