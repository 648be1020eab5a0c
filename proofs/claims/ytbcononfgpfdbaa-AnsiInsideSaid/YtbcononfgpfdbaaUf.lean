/-
  ansi: next.
-/
import Derived.Test.YtbcononfgpfdbaaUe
namespace Go.Proofs.Ytbcononfgpfdbaa.An
open Go.RowKit Go.Proofs.Ytbcononfgpfdbaa.L Go.Proofs.Ytbcononfgpfdbaa.N Go.Proofs.YtbcononfgpfdbaaW.PrintWords

theorem out_obj {n0 b : Nat} {ok : Nat → Prop} {v : Value} {evs : List Ev} {w w' : World} {cs : Array Value} (h : kE.R tE w n0 ok v evs) (hb : w.heap[b]? = some (.cells cs tP (0, 0))) (hg : w.grownBy w' (some b)) : kE.R tE w' n0 ok v evs :=
  Kd.R_mono (Kd.R_grown (Kd.R_types h hb (by intro q hq; simp [kE, Kd.pair, Kd.slice, Kd.string, Kd.int, Kd.scalar] at hq; rcases hq with rfl | rfl <;> decide)) hg (fun k hk he => hk.2 (by injection he))) (fun k hk => hk.1)
theorem cut_i (A : Option Addr) (n c m : Nat) (h1 : m ≤ n) (hc : n ≤ c) (W : World) : (Instr.slice 40 (.slice A n c) none (some (.int .i64 (m : Int))) none).run Try.prog W = .ok (.slice A m c) W := by
  obtain ⟨i0, hi, hzz⟩ := Option.map_eq_some_iff.1 info_i
  exact (cut_to 40 3 .i64 Try.underlying40 hi A n c m (by omega) (by omega) hc W).trans (by rw [Int.toNat_natCast])
/-- behind the append: the cells that are written end as they end -/
theorem next_end {n0 b g L cap m1 c1 k : Nat} {A1 : Option Addr} {vp vt vo : Value} {S : St} {evs : List Ev} {w W w1 W5 : World} (HP : OK S)
    (HQ : PM n0 b (.slice (some ⟨g, 0, none⟩) L cap) vt vo { S with par := par0 S.par } evs W) (HT : TR b vp vt vo (.slice (some ⟨g, 0, none⟩) L cap) vt vo w W)
    (HR : (Kd.int .i64).R tI w1 n0 (fun _ => True) (.slice A1 m1 c1) (nat (par0 S.par ++ [0]))) (hg : W.grownBy w1 (some g)) (hno : NO W (.slice (some ⟨g, 0, none⟩) L cap) (.slice A1 m1 c1)) (hm : (par0 S.par ++ [0]).length = m1) (hk : k = min m1 16)
    (gn : Bool) (hgn : gn = (S.gone || decide (16 < m1))) (hb5 : W5.heap[b]? = some (.cells (PC { S with gone := gn } (.slice A1 k c1) vt vo) tP (0, 0))) (hg5 : w1.grownBy W5 (some b)) :
    ∃ vp' vt' vo', PM n0 b vp' vt' vo' (nxtS S) (evs ++ []) W5 ∧ TR b vp vt vo vp' vt' vo' w W5 := by
  obtain ⟨cells, hcg⟩ := Kd.R_typed HQ.par g rfl
  have hbg : b ≠ g := fun e => by
    have := hcg
    rw [← e, HQ.blk] at this
    injection this with this
    injection this with _ this _
    exact absurd this (by decide)
  have hb1 : w1.heap[b]? = some (.cells (PC { S with par := par0 S.par } (.slice (some ⟨g, 0, none⟩) L cap) vt vo) tP (0, 0)) := (hg.block b HQ.lt (fun e => hbg (by injection e))).trans HQ.blk
  have hat : (Value.slice A1 m1 c1).ownBlock = (Value.slice (some ⟨g, 0, none⟩) L cap).ownBlock ∨ ∃ b, (Value.slice A1 m1 c1).ownBlock = some b ∧ W.heap.size ≤ b := by
    obtain ⟨g1, cap1, e, _⟩ := Kd.R_form HR (by rw [nat_length]; simp)
    injection e with e1 _ _
    subst e1
    rcases hno g1 rfl with h | h
    · exact .inl h.symm
    · exact .inr ⟨g1, rfl, h⟩
  have ho1 := Kd.R_after (ok := fun _ => True) (v := .slice (some ⟨g, 0, none⟩) L cap) (v1 := .slice A1 m1 c1) (Kd.R_mono HQ.out (fun k hk => ⟨trivial, hk⟩)) hg hat
  have ek : (Value.slice A1 k c1).ownBlock = (Value.slice A1 m1 c1).ownBlock := by cases A1 <;> rfl
  have e1 : (nxtS S).par = (par0 S.par ++ [0]).take k := by show List.take _ _ = _; rw [hm, hk]
  refine ⟨.slice A1 k c1, vt, vo, ⟨?_, ?_, ?_, ?_, HQ.ge, OK_nxt HP⟩, ?_⟩
  · rw [hb5]
    have : (nxtS S).gone = gn := by rw [hgn]; show (S.gone || decide (16 < (par0 S.par ++ [0]).length)) = _; rw [hm]
    simp only [PCt, this]
    rfl
  · rw [e1, nat_take]
    exact Kd.R_take (R_obj HR hb1 (by intro q hq; simp [Kd.int, Kd.scalar] at hq; subst hq; decide) hg5) (by rw [nat_length, hm, hk]; exact Nat.min_le_left _ _)
  · exact R_obj (R_obj HQ.txt hcg (by intro q hq; simp [Kd.int, Kd.scalar] at hq; subst hq; decide) hg) hb1 (by intro q hq; simp [Kd.int, Kd.scalar] at hq; subst hq; decide) hg5
  · rw [List.append_nil]
    exact Kd.R_mono (out_obj ho1 hb1 hg5) (fun j hj => by rw [ek]; exact hj.2)
  · refine HT.trans ⟨hg5.os.trans hg.os, hg5.tape.trans hg.tape, hg5.output.trans hg.output, Nat.le_trans hg.size hg5.size, fun k hk h1 h2 _ _ => ?_, fun j hj => hno j (by rw [← ek]; exact hj), NO.self _ _, NO.self _ _⟩
    exact (hg5.block k (Nat.lt_of_lt_of_le hk hg.size) (fun e => h1 (by injection e))).trans (hg.block k hk h2)
set_option maxRecDepth 100000 in
set_option maxHeartbeats 6400000 in
theorem next_any (n0 b : Nat) (vp vt vo : Value) (S : St) (evs : List Ev) (w : World) (h : PM n0 b vp vt vo S evs w) :
    Calls Try.prog 73 #[.pointer (some ⟨b, 0, none⟩)] w (PoC n0 b vp vt vo evs (nxtS S, []) w) := by
  have HP := Lib.hid h
  by_cases hp0 : S.par.length = 0
  · have hpn : S.par = [] := List.eq_nil_of_length_eq_zero hp0
    have hpar := h.par
    rw [hpn] at hpar
    obtain ⟨A0, k0, hv0⟩ := Kd.R_slice hpar
    have HS0 := Lib.hid (show par0 S.par = [0] from by unfold par0; rw [if_pos hp0])
    have hv1 : vp = .slice A0 0 k0 := hv0
    have c7 : w.cell? ⟨b, 7, none⟩ = some (.slice A0 0 k0) := by rw [← hv1, blk_cell h.blk]; rfl
    have hPa0 := (blk_below h.blk ((Below.refl _ _).alloc (Nat.le_refl _) (.cells #[.int .i64 0] tI)))
    have c7a : (w.alloc (.cells #[.int .i64 0] tI)).cell? ⟨b, 7, none⟩ = some (.slice A0 0 k0) := by rw [← hv1, blk_cell hPa0]; rfl
    have fza := blk_frozen hPa0
    clear hpn hpar hv0 hv1 hp0 hPa0
    clear h
    go_enter Try.func73, Try.ntmps73
    go_upto_region 2 with (fail)
    refine wp_at fun W hW => ?_
    obtain ⟨Wa, hWa⟩ : ∃ Wa, Wa = w.alloc (.cells #[.int .i64 0] tI) := ⟨_, rfl⟩
    have hW2 : W = Wa.setCell ⟨b, 7, none⟩ (.slice (some ⟨w.heap.size, 0, none⟩) 1 1) := by rw [hWa]; exact hW
    have ba : Below w.heap.size w Wa := by rw [hWa]; exact (Below.refl _ _).alloc (Nat.le_refl _) _
    have hg : Wa.heap[w.heap.size]? = some (.cells #[.int .i64 0] tI (0, 0)) := by rw [hWa]; exact heap_alloc_new w _
    have hPa := HP.out.below ba
    have hb2 := blk_set hPa.blk 7 (.slice (some ⟨w.heap.size, 0, none⟩) 1 1)
    have gb := grown_set Wa b 7 (.slice (some ⟨w.heap.size, 0, none⟩) 1 1)
    rw [← hW2] at hb2 gb
    have hlt := HP.out.lt
    have hne : w.heap.size ≠ b := by omega
    have hQ1 : PM n0 b (.slice (some ⟨w.heap.size, 0, none⟩) 1 1) vt vo { S with par := par0 S.par } evs W := by
      refine ⟨hb2, ?_, R_obj hPa.txt hPa.blk (by intro q hq; simp [Kd.int, Kd.scalar] at hq; subst hq; decide) gb, ?_, HP.out.ge, ⟨par0_val HP.out.oks.val, (par0_len HP.out.oks.len).2, HP.out.oks.txt, HP.out.oks.st⟩⟩
      · rw [show nat ({ S with par := par0 S.par } : St).par = [(0 : Int)] from by rw [HS0.out]; rfl]
        exact R_of_blk (k := .i64) (l := [(0 : Int)]) (by rw [gb.block _ (blk_lt hg) (fun e => hne (by injection e))]; exact hg) (by have := HP.out.ge; omega) (by decide)
      · have h1 := Kd.R_below (Kd.R_mono (ok' := fun k => some k ≠ some w.heap.size) (Kd.R_bound HP.out.out) (fun k hk e => by injection e with e; have := hk.2.2.1; omega)) ba
        exact Kd.R_mono (Kd.R_grown (Kd.R_types h1 hPa.blk (by intro q hq; simp [kE, Kd.pair, Kd.slice, Kd.string, Kd.int, Kd.scalar] at hq; rcases hq with rfl | rfl <;> decide)) gb (fun k hk he => hk.2 (by injection he))) (fun k hk => hk.1)
    have hT1 : TR b vp vt vo (.slice (some ⟨w.heap.size, 0, none⟩) 1 1) vt vo w W :=
      ⟨gb.os.trans ba.os, gb.tape.trans ba.tape, gb.output.trans ba.output, Nat.le_trans ba.size gb.size, fun k hk h1 _ _ _ => (gb.block k (Nat.lt_of_lt_of_le hk ba.size) (fun e => h1 (by injection e))).trans (ba.block k hk), fun k hk => .inr (by simp [Value.ownBlock] at hk; omega), NO.self _ _, NO.self _ _⟩
    have HQ := Lib.hid hQ1
    have HT := Lib.hid hT1
    have HLn := Lib.hid (show (par0 S.par).length = 1 from by rw [HS0.out]; rfl)
    clear hW hWa hW2 ba hg hPa hb2 gb hlt hne hQ1 hT1 c7 c7a fza
    obtain ⟨g, hgg⟩ : ∃ g, w.heap.size = g := ⟨_, rfl⟩
    rw [hgg] at HQ HT
    obtain ⟨L, hL⟩ : ∃ L, 1 = L := ⟨_, rfl⟩
    obtain ⟨cap, hcap⟩ : ∃ cap, 1 = cap := ⟨_, rfl⟩
    have HQ' := Lib.hid (show PM n0 b (.slice (some ⟨g, 0, none⟩) L cap) vt vo { S with par := par0 S.par } evs W from by rw [← hL, ← hcap]; exact HQ.out)
    have HT' := Lib.hid (show TR b vp vt vo (.slice (some ⟨g, 0, none⟩) L cap) vt vo w W from by rw [← hL, ← hcap]; exact HT.out)
    have HL' := Lib.hid (show (par0 S.par).length = L from by rw [← hL]; exact HLn.out)
    clear HQ HT HLn hL hcap hgg HS0 
    have hL1 := par0_len HP.out.oks.len
    rw [HL'.out] at hL1
    have HLb := Lib.hid hL1
    have c7 : W.cell? ⟨b, 7, none⟩ = some (.slice (some ⟨g, 0, none⟩) L cap) := by rw [blk_cell HQ'.out.blk]; rfl
    clear hL1
    go_upto_region 3 with (at_builtin; refine appke (Kd.int .i64) n0 (.tmp 19) (.tmp 20) 40 tI (.int .i64 0) 8 rfl rfl Try.underlying40 info_i rfl (by decide) (by decide) (.slice (some ⟨g, 0, none⟩) L cap) (nat (par0 S.par)) 0 [.int .i64 0] (fun _ => True) (fun _ => False) rfl rfl rfl (fun _ h => h.elim) (fun _ _ => trivial) HQ'.out.par (Nat.le_trans HP.out.ge (Nat.le_of_lt HQ'.out.lt)) (by rw [nat_length, HL'.out]; have := HLb.out; omega) ?_; intro v1 w1 hr1 hg1 hno1; obtain ⟨A1, c1, hv1⟩ := Kd.R_slice hr1; obtain ⟨m1, hm1⟩ : ∃ m, (nat (par0 S.par) ++ [0]).length = m := ⟨_, rfl⟩; rw [hm1] at hv1; have hmL : m1 = L + 1 := (by rw [← hm1, List.length_append, nat_length, HL'.out]; rfl); subst hv1; (have HR1 := Lib.hid (show (Kd.int .i64).R tI w1 n0 (fun _ => True) (.slice A1 m1 c1) (nat (par0 S.par ++ [0])) from (by rw [nat_app]; exact hr1))); (have HG1 := Lib.hid (show W.grownBy w1 (some g) from (World.grownBy_alloc W _ _).trans hg1)); (have HNo := Lib.hid hno1); (have HmL := Lib.hid hmL); obtain ⟨cells, hcg⟩ := Kd.R_typed HQ'.out.par g rfl; (have hb1 : w1.heap[b]? = some (.cells (PC { S with par := par0 S.par } (.slice (some ⟨g, 0, none⟩) L cap) vt vo) tP (0, 0)) := (HG1.out.block b HQ'.out.lt (fun e => by injection e with e; rw [← e, HQ'.out.blk] at hcg; injection hcg with hcg; injection hcg with _ hcg _; exact absurd hcg (by decide))).trans HQ'.out.blk); (have HB1 := Lib.hid hb1); (have fz1 := blk_frozen hb1); (have d7 : w1.cell? ⟨b, 7, none⟩ = some (.slice (some ⟨g, 0, none⟩) L cap) := (by rw [blk_cell hb1]; rfl)); clear hr1 hg1 hno1 hm1 hmL hcg hb1)
    refine wp_at fun W3 hW3 => ?_
    have hb3 := blk_set HB1.out 7 (.slice A1 m1 c1)
    have hg3 := grown_set w1 b 7 (.slice A1 m1 c1)
    rw [← hW3] at hb3 hg3
    have HB3 := Lib.hid (show W3.heap[b]? = some (.cells (PC { S with par := par0 S.par } (.slice A1 m1 c1) vt vo) tP (0, 0)) from hb3)
    have HG3 := Lib.hid hg3
    have fz := blk_frozen hb3
    have e7 : W3.cell? ⟨b, 7, none⟩ = some (.slice A1 m1 c1) := by rw [blk_cell HB3.out]; rfl
    have e10 : W3.cell? ⟨b, 10, none⟩ = some (.bool S.gone) := by rw [blk_cell HB3.out]; rfl
    clear hW3 hb3 hg3 fz1 d7 c7
    have HCp := Lib.hid (show m1 ≤ c1 from (Kd.R_reads' HR1.out).2.1)
    have m17 : (m1 : Int) ≤ 17 := by have := HmL.out; have := HLb.out; omega
    cases hgone : S.gone with
    | true =>
      rw [hgone] at e10
      by_cases hm16 : m1 ≤ 16
      · have hb4 := blk_set HB3.out 10 (.bool true)
        have HG4 := Lib.hid (HG3.out.trans (grown_set W3 b 10 (.bool true)))
        have HB4 := Lib.hid (show (W3.setCell ⟨b, 10, none⟩ (.bool true)).heap[b]? = some (.cells (PC { S with par := par0 S.par, gone := true } (.slice A1 m1 c1) vt vo) tP (0, 0)) from hb4)
        clear hb4
        have lem : (m1 : Int) ≤ 16 := by omega
        have lfm : decide ((m1 : Int) ≤ 16) = true := decide_eq_true (by omega)
        have ltm : ¬ (16 : Int) < m1 := by omega
        have ldm : decide ((16 : Int) < m1) = false := decide_eq_false (by omega)
        go_upto_region 4 with (fail)
        refine wp_at fun W4 hW4 => ?_
        rw [← hW4] at HB4 HG4
        clear hW4 e7 e10 fz
        have hcut := fun W => cut_i A1 m1 c1 m1 (by omega) HCp.out W
        obtain ⟨Wd, hWd⟩ : ∃ W', W4.drew = W' := ⟨_, rfl⟩
        have HB5 := Lib.hid (show Wd.heap[b]? = some (.cells (PC { S with par := par0 S.par, gone := true } (.slice A1 m1 c1) vt vo) tP (0, 0)) from by rw [← hWd]; exact HB4.out)
        have HG5 := Lib.hid (show w1.grownBy Wd (some b) from by rw [← hWd]; exact HG4.out.trans (grown_drew _ _))
        have g7 := gw (w := W4) (blk_lt HB4.out) (show W4.cell? ⟨b, 7, none⟩ = some (.slice A1 m1 c1) from by rw [blk_cell HB4.out]; rfl)
        refine Q.wp_region_segsF none [] [0, 1, 2, 3, 4, 5, 6, 7, 8, 9, 10, 11, 12, 13, 14, 15, 16] 17 (by kernel_rfl) (by kernel_rfl) (by kernel_rfl) (by kernel_rfl) ?_
        dsimp only [Q.wpSegsF, Q.picks, Q.pick]
        repeat (go_big_quiet_step (fail))
        refine wpQuiet_nil ?_
        rw [hWd]
        clear hWd g7 hcut
        have fz := blk_frozen HB5.out
        have e7 : Wd.cell? ⟨b, 7, none⟩ = some (.slice A1 m1 c1) := by rw [blk_cell HB5.out]; rfl
        go_wp2_with fail
        refine NoPanic.normal ?_
        go_wp2_with fail
        first | go_end0 | ((try simp only [Exit.inBlock, Exit.then]); refine bodyPost_ret (results_none rfl _ _ _) rfl ?_)
        exact ⟨rfl, next_end HP.out.oks HQ'.out HT'.out HR1.out HG1.out HNo.out (by have := HmL.out; rw [List.length_append, HL'.out]; simp; omega) (k := m1) (by omega) true (by rw [hgone]; rfl) (blk_set HB5.out 7 (.slice A1 m1 c1)) (HG5.out.trans (grown_set _ _ _ _))⟩
      · obtain rfl : m1 = 17 := by omega
        have hb4 := blk_set HB3.out 10 (.bool true)
        have HG4 := Lib.hid (HG3.out.trans (grown_set W3 b 10 (.bool true)))
        have HB4 := Lib.hid (show (W3.setCell ⟨b, 10, none⟩ (.bool true)).heap[b]? = some (.cells (PC { S with par := par0 S.par, gone := true } (.slice A1 17 c1) vt vo) tP (0, 0)) from hb4)
        clear hb4
        go_upto_region 4 with (fail)
        refine wp_at fun W4 hW4 => ?_
        rw [← hW4] at HB4 HG4
        clear hW4 e7 e10 fz
        have hcut : ∀ W, (Instr.slice 40 (.slice A1 17 c1) none (some (.int .i64 (16 : Int))) none).run Try.prog W = .ok (.slice A1 16 c1) W := fun W => cut_i A1 17 c1 16 (by omega) HCp.out W
        obtain ⟨Wd, hWd⟩ : ∃ W', W4.drew = W' := ⟨_, rfl⟩
        have HB5 := Lib.hid (show Wd.heap[b]? = some (.cells (PC { S with par := par0 S.par, gone := true } (.slice A1 17 c1) vt vo) tP (0, 0)) from by rw [← hWd]; exact HB4.out)
        have HG5 := Lib.hid (show w1.grownBy Wd (some b) from by rw [← hWd]; exact HG4.out.trans (grown_drew _ _))
        have g7 := gw (w := W4) (blk_lt HB4.out) (show W4.cell? ⟨b, 7, none⟩ = some (.slice A1 17 c1) from by rw [blk_cell HB4.out]; rfl)
        refine Q.wp_region_segsF none [] [0, 1, 2, 3, 4, 5, 6, 7, 8, 9, 10, 11, 12, 13, 14, 15, 16] 17 (by kernel_rfl) (by kernel_rfl) (by kernel_rfl) (by kernel_rfl) ?_
        dsimp only [Q.wpSegsF, Q.picks, Q.pick]
        repeat (go_big_quiet_step (fail))
        refine wpQuiet_nil ?_
        rw [hWd]
        clear hWd g7 hcut
        have fz := blk_frozen HB5.out
        have e7 : Wd.cell? ⟨b, 7, none⟩ = some (.slice A1 17 c1) := by rw [blk_cell HB5.out]; rfl
        go_wp2_with fail
        refine NoPanic.normal ?_
        go_wp2_with fail
        first | go_end0 | ((try simp only [Exit.inBlock, Exit.then]); refine bodyPost_ret (results_none rfl _ _ _) rfl ?_)
        exact ⟨rfl, next_end HP.out.oks HQ'.out HT'.out HR1.out HG1.out HNo.out (by have := HmL.out; rw [List.length_append, HL'.out]; simp; omega) (k := 16) (by omega) true (by rw [hgone]; rfl) (blk_set HB5.out 7 (.slice A1 16 c1)) (HG5.out.trans (grown_set _ _ _ _))⟩
    | false =>
      rw [hgone] at e10
      by_cases hm16 : m1 ≤ 16
      · have hb4 := blk_set HB3.out 10 (.bool false)
        have HG4 := Lib.hid (HG3.out.trans (grown_set W3 b 10 (.bool false)))
        have HB4 := Lib.hid (show (W3.setCell ⟨b, 10, none⟩ (.bool false)).heap[b]? = some (.cells (PC { S with par := par0 S.par, gone := false } (.slice A1 m1 c1) vt vo) tP (0, 0)) from hb4)
        clear hb4
        have lem : (m1 : Int) ≤ 16 := by omega
        have lfm : decide ((m1 : Int) ≤ 16) = true := decide_eq_true (by omega)
        have ltm : ¬ (16 : Int) < m1 := by omega
        have ldm : decide ((16 : Int) < m1) = false := decide_eq_false (by omega)
        go_upto_region 4 with (fail)
        refine wp_at fun W4 hW4 => ?_
        rw [← hW4] at HB4 HG4
        clear hW4 e7 e10 fz
        have hcut := fun W => cut_i A1 m1 c1 m1 (by omega) HCp.out W
        obtain ⟨Wd, hWd⟩ : ∃ W', W4.drew = W' := ⟨_, rfl⟩
        have HB5 := Lib.hid (show Wd.heap[b]? = some (.cells (PC { S with par := par0 S.par, gone := false } (.slice A1 m1 c1) vt vo) tP (0, 0)) from by rw [← hWd]; exact HB4.out)
        have HG5 := Lib.hid (show w1.grownBy Wd (some b) from by rw [← hWd]; exact HG4.out.trans (grown_drew _ _))
        have g7 := gw (w := W4) (blk_lt HB4.out) (show W4.cell? ⟨b, 7, none⟩ = some (.slice A1 m1 c1) from by rw [blk_cell HB4.out]; rfl)
        refine Q.wp_region_segsF none [] [0, 1, 2, 3, 4, 5, 6, 7, 8, 9, 10, 11, 12, 13, 14, 15, 16] 17 (by kernel_rfl) (by kernel_rfl) (by kernel_rfl) (by kernel_rfl) ?_
        dsimp only [Q.wpSegsF, Q.picks, Q.pick]
        repeat (go_big_quiet_step (fail))
        refine wpQuiet_nil ?_
        rw [hWd]
        clear hWd g7 hcut
        have fz := blk_frozen HB5.out
        have e7 : Wd.cell? ⟨b, 7, none⟩ = some (.slice A1 m1 c1) := by rw [blk_cell HB5.out]; rfl
        go_wp2_with fail
        refine NoPanic.normal ?_
        go_wp2_with fail
        first | go_end0 | ((try simp only [Exit.inBlock, Exit.then]); refine bodyPost_ret (results_none rfl _ _ _) rfl ?_)
        exact ⟨rfl, next_end HP.out.oks HQ'.out HT'.out HR1.out HG1.out HNo.out (by have := HmL.out; rw [List.length_append, HL'.out]; simp; omega) (k := m1) (by omega) false (by rw [hgone, decide_eq_false (by omega)]; rfl) (blk_set HB5.out 7 (.slice A1 m1 c1)) (HG5.out.trans (grown_set _ _ _ _))⟩
      · obtain rfl : m1 = 17 := by omega
        have hb4 := blk_set HB3.out 10 (.bool true)
        have HG4 := Lib.hid (HG3.out.trans (grown_set W3 b 10 (.bool true)))
        have HB4 := Lib.hid (show (W3.setCell ⟨b, 10, none⟩ (.bool true)).heap[b]? = some (.cells (PC { S with par := par0 S.par, gone := true } (.slice A1 17 c1) vt vo) tP (0, 0)) from hb4)
        clear hb4
        go_upto_region 4 with (fail)
        refine wp_at fun W4 hW4 => ?_
        rw [← hW4] at HB4 HG4
        clear hW4 e7 e10 fz
        have hcut : ∀ W, (Instr.slice 40 (.slice A1 17 c1) none (some (.int .i64 (16 : Int))) none).run Try.prog W = .ok (.slice A1 16 c1) W := fun W => cut_i A1 17 c1 16 (by omega) HCp.out W
        obtain ⟨Wd, hWd⟩ : ∃ W', W4.drew = W' := ⟨_, rfl⟩
        have HB5 := Lib.hid (show Wd.heap[b]? = some (.cells (PC { S with par := par0 S.par, gone := true } (.slice A1 17 c1) vt vo) tP (0, 0)) from by rw [← hWd]; exact HB4.out)
        have HG5 := Lib.hid (show w1.grownBy Wd (some b) from by rw [← hWd]; exact HG4.out.trans (grown_drew _ _))
        have g7 := gw (w := W4) (blk_lt HB4.out) (show W4.cell? ⟨b, 7, none⟩ = some (.slice A1 17 c1) from by rw [blk_cell HB4.out]; rfl)
        refine Q.wp_region_segsF none [] [0, 1, 2, 3, 4, 5, 6, 7, 8, 9, 10, 11, 12, 13, 14, 15, 16] 17 (by kernel_rfl) (by kernel_rfl) (by kernel_rfl) (by kernel_rfl) ?_
        dsimp only [Q.wpSegsF, Q.picks, Q.pick]
        repeat (go_big_quiet_step (fail))
        refine wpQuiet_nil ?_
        rw [hWd]
        clear hWd g7 hcut
        have fz := blk_frozen HB5.out
        have e7 : Wd.cell? ⟨b, 7, none⟩ = some (.slice A1 17 c1) := by rw [blk_cell HB5.out]; rfl
        go_wp2_with fail
        refine NoPanic.normal ?_
        go_wp2_with fail
        first | go_end0 | ((try simp only [Exit.inBlock, Exit.then]); refine bodyPost_ret (results_none rfl _ _ _) rfl ?_)
        exact ⟨rfl, next_end HP.out.oks HQ'.out HT'.out HR1.out HG1.out HNo.out (by have := HmL.out; rw [List.length_append, HL'.out]; simp; omega) (k := 16) (by omega) true (by rw [hgone]; rfl) (blk_set HB5.out 7 (.slice A1 16 c1)) (HG5.out.trans (grown_set _ _ _ _))⟩
  · have hS0 : ({ S with par := par0 S.par } : St) = S := by
      have : par0 S.par = S.par := by unfold par0; rw [if_neg hp0]
      rw [this]
    have HS0 := Lib.hid (show par0 S.par = S.par from by unfold par0; rw [if_neg hp0])
    obtain ⟨g, cap, hv1, _, _, _⟩ := Kd.R_form h.par (by rw [nat_length]; omega)
    rw [nat_length] at hv1
    obtain ⟨L, hL⟩ : ∃ L, S.par.length = L := ⟨_, rfl⟩
    rw [hL] at hv1
    have HT' := Lib.hid (show TR b vp vt vo (.slice (some ⟨g, 0, none⟩) L cap) vt vo w w from by rw [← hv1]; exact TR.refl _ _ _ _ _)
    have HQ' := Lib.hid (show PM n0 b (.slice (some ⟨g, 0, none⟩) L cap) vt vo { S with par := par0 S.par } evs w from by rw [hS0, ← hv1]; exact h)
    have HL' := Lib.hid (show (par0 S.par).length = L from by rw [HS0.out, hL])
    have c7 : w.cell? ⟨b, 7, none⟩ = some (.slice (some ⟨g, 0, none⟩) L cap) := by rw [← hv1, blk_cell h.blk]; rfl
    have t1 : ((L : Int) == 0) = false := beq_eq_false_iff_ne.2 (by omega)
    have t2 : decide ((L : Int) = 0) = false := decide_eq_false (by omega)
    have t3 : ¬ (L : Int) = 0 := by omega
    have t4 : ¬ L = 0 := by omega
    clear hS0 hv1 hL hp0 HS0
    clear h
    go_enter Try.func73, Try.ntmps73
    go_upto_region 2 with (fail)
    obtain ⟨W, hW⟩ : ∃ W, W = w := ⟨_, rfl⟩
    refine wp_at fun W2 hW2 => ?_
    have HQ2 := Lib.hid (show PM n0 b (.slice (some ⟨g, 0, none⟩) L cap) vt vo { S with par := par0 S.par } evs W2 from by rw [hW2]; exact HQ'.out)
    have HT2 := Lib.hid (show TR b vp vt vo (.slice (some ⟨g, 0, none⟩) L cap) vt vo w W2 from by rw [hW2]; exact HT'.out)
    clear hW W HQ' HT' hW2 c7 
    have fz2 := blk_frozen HQ2.out.blk
    have hL1 := par0_len HP.out.oks.len
    rw [HL'.out] at hL1
    have HLb := Lib.hid hL1
    have c7 : W2.cell? ⟨b, 7, none⟩ = some (.slice (some ⟨g, 0, none⟩) L cap) := by rw [blk_cell HQ2.out.blk]; rfl
    clear hL1
    go_upto_region 3 with (at_builtin; refine appke (Kd.int .i64) n0 (.tmp 19) (.tmp 20) 40 tI (.int .i64 0) 8 rfl rfl Try.underlying40 info_i rfl (by decide) (by decide) (.slice (some ⟨g, 0, none⟩) L cap) (nat (par0 S.par)) 0 [.int .i64 0] (fun _ => True) (fun _ => False) rfl rfl rfl (fun _ h => h.elim) (fun _ _ => trivial) HQ2.out.par (Nat.le_trans HP.out.ge (Nat.le_of_lt HQ2.out.lt)) (by rw [nat_length, HL'.out]; have := HLb.out; omega) ?_; intro v1 w1 hr1 hg1 hno1; obtain ⟨A1, c1, hv1⟩ := Kd.R_slice hr1; obtain ⟨m1, hm1⟩ : ∃ m, (nat (par0 S.par) ++ [0]).length = m := ⟨_, rfl⟩; rw [hm1] at hv1; have hmL : m1 = L + 1 := (by rw [← hm1, List.length_append, nat_length, HL'.out]; rfl); subst hv1; (have HR1 := Lib.hid (show (Kd.int .i64).R tI w1 n0 (fun _ => True) (.slice A1 m1 c1) (nat (par0 S.par ++ [0])) from (by rw [nat_app]; exact hr1))); (have HG1 := Lib.hid (show W2.grownBy w1 (some g) from (World.grownBy_alloc W2 _ _).trans hg1)); (have HNo := Lib.hid hno1); (have HmL := Lib.hid hmL); obtain ⟨cells, hcg⟩ := Kd.R_typed HQ2.out.par g rfl; (have hb1 : w1.heap[b]? = some (.cells (PC { S with par := par0 S.par } (.slice (some ⟨g, 0, none⟩) L cap) vt vo) tP (0, 0)) := (HG1.out.block b HQ2.out.lt (fun e => by injection e with e; rw [← e, HQ2.out.blk] at hcg; injection hcg with hcg; injection hcg with _ hcg _; exact absurd hcg (by decide))).trans HQ2.out.blk); (have HB1 := Lib.hid hb1); (have fz1 := blk_frozen hb1); (have d7 : w1.cell? ⟨b, 7, none⟩ = some (.slice (some ⟨g, 0, none⟩) L cap) := (by rw [blk_cell hb1]; rfl)); clear hr1 hg1 hno1 hm1 hmL hcg hb1)
    refine wp_at fun W3 hW3 => ?_
    have hb3 := blk_set HB1.out 7 (.slice A1 m1 c1)
    have hg3 := grown_set w1 b 7 (.slice A1 m1 c1)
    rw [← hW3] at hb3 hg3
    have HB3 := Lib.hid (show W3.heap[b]? = some (.cells (PC { S with par := par0 S.par } (.slice A1 m1 c1) vt vo) tP (0, 0)) from hb3)
    have HG3 := Lib.hid hg3
    have fz := blk_frozen hb3
    have e7 : W3.cell? ⟨b, 7, none⟩ = some (.slice A1 m1 c1) := by rw [blk_cell HB3.out]; rfl
    have e10 : W3.cell? ⟨b, 10, none⟩ = some (.bool S.gone) := by rw [blk_cell HB3.out]; rfl
    clear hW3 hb3 hg3 fz1 d7 c7
    have HCp := Lib.hid (show m1 ≤ c1 from (Kd.R_reads' HR1.out).2.1)
    have m17 : (m1 : Int) ≤ 17 := by have := HmL.out; have := HLb.out; omega
    cases hgone : S.gone with
    | true =>
      rw [hgone] at e10
      by_cases hm16 : m1 ≤ 16
      · have hb4 := blk_set HB3.out 10 (.bool true)
        have HG4 := Lib.hid (HG3.out.trans (grown_set W3 b 10 (.bool true)))
        have HB4 := Lib.hid (show (W3.setCell ⟨b, 10, none⟩ (.bool true)).heap[b]? = some (.cells (PC { S with par := par0 S.par, gone := true } (.slice A1 m1 c1) vt vo) tP (0, 0)) from hb4)
        clear hb4
        have lem : (m1 : Int) ≤ 16 := by omega
        have lfm : decide ((m1 : Int) ≤ 16) = true := decide_eq_true (by omega)
        have ltm : ¬ (16 : Int) < m1 := by omega
        have ldm : decide ((16 : Int) < m1) = false := decide_eq_false (by omega)
        go_upto_region 4 with (fail)
        refine wp_at fun W4 hW4 => ?_
        rw [← hW4] at HB4 HG4
        clear hW4 e7 e10 fz
        have hcut := fun W => cut_i A1 m1 c1 m1 (by omega) HCp.out W
        obtain ⟨Wd, hWd⟩ : ∃ W', W4.drew = W' := ⟨_, rfl⟩
        have HB5 := Lib.hid (show Wd.heap[b]? = some (.cells (PC { S with par := par0 S.par, gone := true } (.slice A1 m1 c1) vt vo) tP (0, 0)) from by rw [← hWd]; exact HB4.out)
        have HG5 := Lib.hid (show w1.grownBy Wd (some b) from by rw [← hWd]; exact HG4.out.trans (grown_drew _ _))
        have g7 := gw (w := W4) (blk_lt HB4.out) (show W4.cell? ⟨b, 7, none⟩ = some (.slice A1 m1 c1) from by rw [blk_cell HB4.out]; rfl)
        refine Q.wp_region_segsF none [] [0, 1, 2, 3, 4, 5, 6, 7, 8, 9, 10, 11, 12, 13, 14, 15, 16] 17 (by kernel_rfl) (by kernel_rfl) (by kernel_rfl) (by kernel_rfl) ?_
        dsimp only [Q.wpSegsF, Q.picks, Q.pick]
        repeat (go_big_quiet_step (fail))
        refine wpQuiet_nil ?_
        rw [hWd]
        clear hWd g7 hcut
        have fz := blk_frozen HB5.out
        have e7 : Wd.cell? ⟨b, 7, none⟩ = some (.slice A1 m1 c1) := by rw [blk_cell HB5.out]; rfl
        go_wp2_with fail
        refine NoPanic.normal ?_
        go_wp2_with fail
        first | go_end0 | ((try simp only [Exit.inBlock, Exit.then]); refine bodyPost_ret (results_none rfl _ _ _) rfl ?_)
        exact ⟨rfl, next_end HP.out.oks HQ2.out HT2.out HR1.out HG1.out HNo.out (by have := HmL.out; rw [List.length_append, HL'.out]; simp; omega) (k := m1) (by omega) true (by rw [hgone]; rfl) (blk_set HB5.out 7 (.slice A1 m1 c1)) (HG5.out.trans (grown_set _ _ _ _))⟩
      · obtain rfl : m1 = 17 := by omega
        have hb4 := blk_set HB3.out 10 (.bool true)
        have HG4 := Lib.hid (HG3.out.trans (grown_set W3 b 10 (.bool true)))
        have HB4 := Lib.hid (show (W3.setCell ⟨b, 10, none⟩ (.bool true)).heap[b]? = some (.cells (PC { S with par := par0 S.par, gone := true } (.slice A1 17 c1) vt vo) tP (0, 0)) from hb4)
        clear hb4
        go_upto_region 4 with (fail)
        refine wp_at fun W4 hW4 => ?_
        rw [← hW4] at HB4 HG4
        clear hW4 e7 e10 fz
        have hcut : ∀ W, (Instr.slice 40 (.slice A1 17 c1) none (some (.int .i64 (16 : Int))) none).run Try.prog W = .ok (.slice A1 16 c1) W := fun W => cut_i A1 17 c1 16 (by omega) HCp.out W
        obtain ⟨Wd, hWd⟩ : ∃ W', W4.drew = W' := ⟨_, rfl⟩
        have HB5 := Lib.hid (show Wd.heap[b]? = some (.cells (PC { S with par := par0 S.par, gone := true } (.slice A1 17 c1) vt vo) tP (0, 0)) from by rw [← hWd]; exact HB4.out)
        have HG5 := Lib.hid (show w1.grownBy Wd (some b) from by rw [← hWd]; exact HG4.out.trans (grown_drew _ _))
        have g7 := gw (w := W4) (blk_lt HB4.out) (show W4.cell? ⟨b, 7, none⟩ = some (.slice A1 17 c1) from by rw [blk_cell HB4.out]; rfl)
        refine Q.wp_region_segsF none [] [0, 1, 2, 3, 4, 5, 6, 7, 8, 9, 10, 11, 12, 13, 14, 15, 16] 17 (by kernel_rfl) (by kernel_rfl) (by kernel_rfl) (by kernel_rfl) ?_
        dsimp only [Q.wpSegsF, Q.picks, Q.pick]
        repeat (go_big_quiet_step (fail))
        refine wpQuiet_nil ?_
        rw [hWd]
        clear hWd g7 hcut
        have fz := blk_frozen HB5.out
        have e7 : Wd.cell? ⟨b, 7, none⟩ = some (.slice A1 17 c1) := by rw [blk_cell HB5.out]; rfl
        go_wp2_with fail
        refine NoPanic.normal ?_
        go_wp2_with fail
        first | go_end0 | ((try simp only [Exit.inBlock, Exit.then]); refine bodyPost_ret (results_none rfl _ _ _) rfl ?_)
        exact ⟨rfl, next_end HP.out.oks HQ2.out HT2.out HR1.out HG1.out HNo.out (by have := HmL.out; rw [List.length_append, HL'.out]; simp; omega) (k := 16) (by omega) true (by rw [hgone]; rfl) (blk_set HB5.out 7 (.slice A1 16 c1)) (HG5.out.trans (grown_set _ _ _ _))⟩
    | false =>
      rw [hgone] at e10
      by_cases hm16 : m1 ≤ 16
      · have hb4 := blk_set HB3.out 10 (.bool false)
        have HG4 := Lib.hid (HG3.out.trans (grown_set W3 b 10 (.bool false)))
        have HB4 := Lib.hid (show (W3.setCell ⟨b, 10, none⟩ (.bool false)).heap[b]? = some (.cells (PC { S with par := par0 S.par, gone := false } (.slice A1 m1 c1) vt vo) tP (0, 0)) from hb4)
        clear hb4
        have lem : (m1 : Int) ≤ 16 := by omega
        have lfm : decide ((m1 : Int) ≤ 16) = true := decide_eq_true (by omega)
        have ltm : ¬ (16 : Int) < m1 := by omega
        have ldm : decide ((16 : Int) < m1) = false := decide_eq_false (by omega)
        go_upto_region 4 with (fail)
        refine wp_at fun W4 hW4 => ?_
        rw [← hW4] at HB4 HG4
        clear hW4 e7 e10 fz
        have hcut := fun W => cut_i A1 m1 c1 m1 (by omega) HCp.out W
        obtain ⟨Wd, hWd⟩ : ∃ W', W4.drew = W' := ⟨_, rfl⟩
        have HB5 := Lib.hid (show Wd.heap[b]? = some (.cells (PC { S with par := par0 S.par, gone := false } (.slice A1 m1 c1) vt vo) tP (0, 0)) from by rw [← hWd]; exact HB4.out)
        have HG5 := Lib.hid (show w1.grownBy Wd (some b) from by rw [← hWd]; exact HG4.out.trans (grown_drew _ _))
        have g7 := gw (w := W4) (blk_lt HB4.out) (show W4.cell? ⟨b, 7, none⟩ = some (.slice A1 m1 c1) from by rw [blk_cell HB4.out]; rfl)
        refine Q.wp_region_segsF none [] [0, 1, 2, 3, 4, 5, 6, 7, 8, 9, 10, 11, 12, 13, 14, 15, 16] 17 (by kernel_rfl) (by kernel_rfl) (by kernel_rfl) (by kernel_rfl) ?_
        dsimp only [Q.wpSegsF, Q.picks, Q.pick]
        repeat (go_big_quiet_step (fail))
        refine wpQuiet_nil ?_
        rw [hWd]
        clear hWd g7 hcut
        have fz := blk_frozen HB5.out
        have e7 : Wd.cell? ⟨b, 7, none⟩ = some (.slice A1 m1 c1) := by rw [blk_cell HB5.out]; rfl
        go_wp2_with fail
        refine NoPanic.normal ?_
        go_wp2_with fail
        first | go_end0 | ((try simp only [Exit.inBlock, Exit.then]); refine bodyPost_ret (results_none rfl _ _ _) rfl ?_)
        exact ⟨rfl, next_end HP.out.oks HQ2.out HT2.out HR1.out HG1.out HNo.out (by have := HmL.out; rw [List.length_append, HL'.out]; simp; omega) (k := m1) (by omega) false (by rw [hgone, decide_eq_false (by omega)]; rfl) (blk_set HB5.out 7 (.slice A1 m1 c1)) (HG5.out.trans (grown_set _ _ _ _))⟩
      · obtain rfl : m1 = 17 := by omega
        have hb4 := blk_set HB3.out 10 (.bool true)
        have HG4 := Lib.hid (HG3.out.trans (grown_set W3 b 10 (.bool true)))
        have HB4 := Lib.hid (show (W3.setCell ⟨b, 10, none⟩ (.bool true)).heap[b]? = some (.cells (PC { S with par := par0 S.par, gone := true } (.slice A1 17 c1) vt vo) tP (0, 0)) from hb4)
        clear hb4
        go_upto_region 4 with (fail)
        refine wp_at fun W4 hW4 => ?_
        rw [← hW4] at HB4 HG4
        clear hW4 e7 e10 fz
        have hcut : ∀ W, (Instr.slice 40 (.slice A1 17 c1) none (some (.int .i64 (16 : Int))) none).run Try.prog W = .ok (.slice A1 16 c1) W := fun W => cut_i A1 17 c1 16 (by omega) HCp.out W
        obtain ⟨Wd, hWd⟩ : ∃ W', W4.drew = W' := ⟨_, rfl⟩
        have HB5 := Lib.hid (show Wd.heap[b]? = some (.cells (PC { S with par := par0 S.par, gone := true } (.slice A1 17 c1) vt vo) tP (0, 0)) from by rw [← hWd]; exact HB4.out)
        have HG5 := Lib.hid (show w1.grownBy Wd (some b) from by rw [← hWd]; exact HG4.out.trans (grown_drew _ _))
        have g7 := gw (w := W4) (blk_lt HB4.out) (show W4.cell? ⟨b, 7, none⟩ = some (.slice A1 17 c1) from by rw [blk_cell HB4.out]; rfl)
        refine Q.wp_region_segsF none [] [0, 1, 2, 3, 4, 5, 6, 7, 8, 9, 10, 11, 12, 13, 14, 15, 16] 17 (by kernel_rfl) (by kernel_rfl) (by kernel_rfl) (by kernel_rfl) ?_
        dsimp only [Q.wpSegsF, Q.picks, Q.pick]
        repeat (go_big_quiet_step (fail))
        refine wpQuiet_nil ?_
        rw [hWd]
        clear hWd g7 hcut
        have fz := blk_frozen HB5.out
        have e7 : Wd.cell? ⟨b, 7, none⟩ = some (.slice A1 17 c1) := by rw [blk_cell HB5.out]; rfl
        go_wp2_with fail
        refine NoPanic.normal ?_
        go_wp2_with fail
        first | go_end0 | ((try simp only [Exit.inBlock, Exit.then]); refine bodyPost_ret (results_none rfl _ _ _) rfl ?_)
        exact ⟨rfl, next_end HP.out.oks HQ2.out HT2.out HR1.out HG1.out HNo.out (by have := HmL.out; rw [List.length_append, HL'.out]; simp; omega) (k := 16) (by omega) true (by rw [hgone]; rfl) (blk_set HB5.out 7 (.slice A1 16 c1)) (HG5.out.trans (grown_set _ _ _ _))⟩
end Go.Proofs.Ytbcononfgpfdbaa.An
