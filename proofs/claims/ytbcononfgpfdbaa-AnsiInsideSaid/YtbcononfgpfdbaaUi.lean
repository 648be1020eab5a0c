/-
  ansi: operating, take.
-/
import Derived.Test.YtbcononfgpfdbaaUh
namespace Go.Proofs.Ytbcononfgpfdbaa.An
open Go.RowKit Go.Proofs.Ytbcononfgpfdbaa.L Go.Proofs.Ytbcononfgpfdbaa.N Go.Proofs.YtbcononfgpfdbaaW.PrintWords

/-- a point behind others, and the parser's cell of them set -/
theorem tx_end {n0 b r : Nat} {vp vt vo v1 : Value} {S : St} {evs : List Ev} {W w1 W2 : World} {o : Obj} (h : PM n0 b vp vt vo S evs W) (hg : (W.alloc o).grownBy w1 vt.ownBlock) (hR : (Kd.int .i32).R tR w1 n0 (fun _ => True) v1 (nat S.text ++ [(r : Int)])) (hno : NO W vt v1) (hlen : S.text.length < 600)
    (hb : W2.heap[b]? = some (.cells (PC { S with text := S.text ++ [r] } vp v1 vo) tP (0, 0))) (hg2 : w1.grownBy W2 (some b)) : PM n0 b vp v1 vo { S with text := S.text ++ [r] } evs W2 ∧ TR b vp vt vo vp v1 vo W W2 := by
  have hga : W.grownBy w1 vt.ownBlock := (World.grownBy_alloc W o _).trans hg
  have hb1 : w1.heap[b]? = some (.cells (PC S vp vt vo) tP (0, 0)) := blk_grown h.blk hga (Kd.R_ne h.txt h.blk (by decide))
  refine ⟨⟨hb, R_obj (Kd.R_over h.par h.txt (by intro q hq; simp [Kd.int, Kd.scalar] at hq; subst hq; decide) hga) hb1 (by intro q hq; simp [Kd.int, Kd.scalar] at hq; subst hq; decide) hg2,
    ?_, out_obj (Kd.R_over h.out h.txt (by intro q hq; simp [kE, Kd.pair, Kd.slice, Kd.string, Kd.int, Kd.scalar] at hq; rcases hq with rfl | rfl <;> decide) hga) hb1 hg2, h.ge, ⟨h.oks.val, h.oks.len, by show (S.text ++ [r]).length ≤ 600; simp; omega, h.oks.st⟩⟩, ?_⟩
  · rw [show nat ({ S with text := S.text ++ [r] } : St).text = nat S.text ++ [(r : Int)] from by show nat (S.text ++ [r]) = _; rw [nat_app]; rfl]
    exact R_obj hR hb1 (by intro q hq; simp [Kd.int, Kd.scalar] at hq; subst hq; decide) hg2
  exact ⟨hg2.os.trans hga.os, hg2.tape.trans hga.tape, hg2.output.trans hga.output, Nat.le_trans hga.size hg2.size, fun k hk h1 _ h3 _ => (hg2.block k (Nat.lt_of_lt_of_le hk hga.size) (fun e => h1 (by injection e))).trans (hga.block k hk h3), NO.self _ _, hno, NO.self _ _⟩
theorem opS_def (S : St) (r : Nat) : opS S r = if r = 7 then telS S else if r = 27 then ({ S with marked := true }, []) else if r < 32 then (S, []) else if S.marked = true ∧ r = 92 then telS S else if S.marked = true then takN (enS 1) r else if S.text.length < 600 then ({ S with text := S.text ++ [r] }, []) else ({ S with gone := true }, []) := rfl
set_option maxRecDepth 100000 in
set_option maxHeartbeats 6400000 in
theorem operating_any (n0 b r : Nat) (vp vt vo : Value) (S : St) (evs : List Ev) (w : World) (h : PM n0 b vp vt vo S evs w) (hl : evs.length ≤ 999999999) (hr : r < 1114112) :
    Calls Try.prog 64 #[.pointer (some ⟨b, 0, none⟩), .int .i32 (r : Int)] w (PoC n0 b vp vt vo evs (opS S r) w) := by
  have HP := Lib.hid h
  have HT := Lib.hid (tell_any n0 b vp vt vo S evs w h (by omega))
  have HE := Lib.hid (enter_any n0 b 1 (by decide) _ vp vt vo S evs w h)
  have HK := Lib.hid (fun vp vt vo W h => taken_any n0 b r vp vt vo (enS 1) evs W h hl hr (by decide))
  have fz := blk_frozen h.blk
  have c10 : w.cell? ⟨b, 10, none⟩ = some (.bool S.gone) := by rw [blk_cell h.blk]; rfl
  have c11 : w.cell? ⟨b, 11, none⟩ = some (.bool S.marked) := by rw [blk_cell h.blk]; rfl
  obtain ⟨A, c, hv, hcc, hC⟩ := Kd.R_reads h.txt
  rw [nat_length] at hv
  subst hv
  have c12 : w.cell? ⟨b, 12, none⟩ = some (.slice A S.text.length c) := by rw [blk_cell h.blk]; rfl
  have HTx := Lib.hid h.oks.txt
  obtain ⟨L, hL⟩ : ∃ L, S.text.length = L := ⟨_, rfl⟩
  have HL := Lib.hid hL
  have z1 : (L : Int) ≤ 600 := by have := HTx.out; omega
  rw [hL] at c12 HT HE ⊢
  have y1 : (r : Int) < 1114112 := by omega
  have y2 : (0 : Int) ≤ (r : Int) := by omega
  obtain ⟨q, hq⟩ : ∃ q, opS S r = q := ⟨_, rfl⟩
  have Hq := Lib.hid hq
  rw [hq]
  clear hq h hl hr hcc hC hL
  by_cases h1 : r = 7
  · have Hv := Lib.hid (show q = telS S from by rw [← Hq.out, opS_def, if_pos h1])
    have eb7 : ((r : Int) == 7) = true := beq_iff_eq.2 (by omega)
    have ed7 : decide ((r : Int) = 7) = true := decide_eq_true (by omega)
    clear HE HK h1
    go_enter Try.func64, Try.ntmps64
    go_wp2_with (go_at_call 69; refine HT.out.mono ?_; rintro e w1 ⟨rfl, vp1, vt1, vo1, hp, ht⟩; (have HPp := Lib.hid hp); (have HTt := Lib.hid ht); clear hp ht)
    first | go_end0 | ((try simp only [Exit.inBlock, Exit.then]); refine bodyPost_ret (results_none rfl _ _ _) rfl ?_)
    exact ⟨rfl, _, _, _, by rw [Hv.out]; exact HPp.out, HTt.out⟩
  · by_cases h2 : r = 27
    · have Hv := Lib.hid (show q = ({ S with marked := true }, []) from by rw [← Hq.out, opS_def, if_neg h1, if_pos h2])
      have eb7 : ((r : Int) == 7) = false := beq_eq_false_iff_ne.2 (by omega)
      have ed7 : decide ((r : Int) = 7) = false := decide_eq_false (by omega)
      have en7 : ¬ (r : Int) = 7 := by omega
      have eb27 : ((r : Int) == 27) = true := beq_iff_eq.2 (by omega)
      have ed27 : decide ((r : Int) = 27) = true := decide_eq_true (by omega)
      clear HT HE HK h1 h2
      go_enter Try.func64, Try.ntmps64
      go_wp2_with fail
      first | go_end0 | ((try simp only [Exit.inBlock, Exit.then]); refine bodyPost_ret (results_none rfl _ _ _) rfl ?_)
      have hb := blk_set HP.out.blk 11 (.bool true)
      have hg := grown_set w b 11 (.bool true)
      exact ⟨rfl, vp, _, vo, by rw [Hv.out, List.append_nil]; exact HP.out.wr hb hg rfl rfl ⟨HP.out.oks.val, HP.out.oks.len, HP.out.oks.txt, HP.out.oks.st⟩, by rw [HL.out]; exact TR.obj hg (NO.self _ _) (NO.self _ _) (NO.self _ _)⟩
    · by_cases h3 : r < 32
      · have Hv := Lib.hid (show q = (S, []) from by rw [← Hq.out, opS_def, if_neg h1, if_neg h2, if_pos h3])
        have eb7 : ((r : Int) == 7) = false := beq_eq_false_iff_ne.2 (by omega)
        have ed7 : decide ((r : Int) = 7) = false := decide_eq_false (by omega)
        have en7 : ¬ (r : Int) = 7 := by omega
        have eb27 : ((r : Int) == 27) = false := beq_eq_false_iff_ne.2 (by omega)
        have ed27 : decide ((r : Int) = 27) = false := decide_eq_false (by omega)
        have en27 : ¬ (r : Int) = 27 := by omega
        have lt32 : (r : Int) < 32 := by omega
        have ld32 : decide ((r : Int) < 32) = true := decide_eq_true (by omega)
        clear HT HE HK h1 h2 h3
        go_enter Try.func64, Try.ntmps64
        go_wp2_with fail
        first | go_end0 | ((try simp only [Exit.inBlock, Exit.then]); refine bodyPost_ret (results_none rfl _ _ _) rfl ?_)
        exact ⟨rfl, vp, _, vo, by rw [Hv.out, List.append_nil]; exact HP.out, by rw [HL.out]; exact TR.refl _ _ _ _ _⟩
      · cases hm : S.marked with
        | true =>
          rw [hm] at c11
          by_cases h4 : r = 92
          · have Hv := Lib.hid (show q = telS S from by rw [← Hq.out, opS_def, if_neg h1, if_neg h2, if_neg h3, if_pos ⟨hm, h4⟩])
            have eb7 : ((r : Int) == 7) = false := beq_eq_false_iff_ne.2 (by omega)
            have ed7 : decide ((r : Int) = 7) = false := decide_eq_false (by omega)
            have en7 : ¬ (r : Int) = 7 := by omega
            have eb27 : ((r : Int) == 27) = false := beq_eq_false_iff_ne.2 (by omega)
            have ed27 : decide ((r : Int) = 27) = false := decide_eq_false (by omega)
            have en27 : ¬ (r : Int) = 27 := by omega
            have lt32 : ¬ (r : Int) < 32 := by omega
            have ld32 : decide ((r : Int) < 32) = false := decide_eq_false (by omega)
            have eb92 : ((r : Int) == 92) = true := beq_iff_eq.2 (by omega)
            have ed92 : decide ((r : Int) = 92) = true := decide_eq_true (by omega)
            clear HE HK h1 h2 h3 h4 hm
            go_enter Try.func64, Try.ntmps64
            go_wp2_with (go_at_call 69; refine HT.out.mono ?_; rintro e w1 ⟨rfl, vp1, vt1, vo1, hp, ht⟩; (have HPp := Lib.hid hp); (have HTt := Lib.hid ht); clear hp ht)
            first | go_end0 | ((try simp only [Exit.inBlock, Exit.then]); refine bodyPost_ret (results_none rfl _ _ _) rfl ?_)
            exact ⟨rfl, _, _, _, by rw [Hv.out]; exact HPp.out, HTt.out⟩
          · have Hv := Lib.hid (show q = takN (enS 1) r from by rw [← Hq.out, opS_def, if_neg h1, if_neg h2, if_neg h3, if_neg (fun h => h4 h.2), if_pos hm])
            have eb7 : ((r : Int) == 7) = false := beq_eq_false_iff_ne.2 (by omega)
            have ed7 : decide ((r : Int) = 7) = false := decide_eq_false (by omega)
            have en7 : ¬ (r : Int) = 7 := by omega
            have eb27 : ((r : Int) == 27) = false := beq_eq_false_iff_ne.2 (by omega)
            have ed27 : decide ((r : Int) = 27) = false := decide_eq_false (by omega)
            have en27 : ¬ (r : Int) = 27 := by omega
            have lt32 : ¬ (r : Int) < 32 := by omega
            have ld32 : decide ((r : Int) < 32) = false := decide_eq_false (by omega)
            have eb92 : ((r : Int) == 92) = false := beq_eq_false_iff_ne.2 (by omega)
            have ed92 : decide ((r : Int) = 92) = false := decide_eq_false (by omega)
            have en92 : ¬ (r : Int) = 92 := by omega
            clear HT h1 h2 h3 h4 hm
            go_enter Try.func64, Try.ntmps64
            go_wp2_with (first | (go_at_call 63; refine HE.out.mono ?_; rintro e w1 ⟨rfl, hp, ht⟩; (have HPp := Lib.hid hp); (have HTt := Lib.hid ht); clear hp ht HE) | (go_at_call 50; refine (HK.out _ _ _ w1 HPp.out).mono ?_; rintro e w2 ⟨rfl, vp2, vt2, vo2, hp, ht⟩; (have HPq := Lib.hid hp); (have HTq := Lib.hid ht); clear hp ht HK))
            first | go_end0 | ((try simp only [Exit.inBlock, Exit.then]); refine bodyPost_ret (results_none rfl _ _ _) rfl ?_)
            exact ⟨rfl, _, _, _, by rw [Hv.out]; exact HPq.out, HTt.out.trans HTq.out⟩
        | false =>
          rw [hm] at c11
          have hmn : ¬ S.marked = true := by rw [hm]; decide
          by_cases h4 : L < 600
          · have Hlt := Lib.hid h4
            have Hv := Lib.hid (show q = ({ S with text := S.text ++ [r] }, []) from by rw [← Hq.out, opS_def, if_neg h1, if_neg h2, if_neg h3, if_neg (fun h => hmn h.1), if_neg hmn, if_pos (by rw [HL.out]; exact h4)])
            have eb7 : ((r : Int) == 7) = false := beq_eq_false_iff_ne.2 (by omega)
            have ed7 : decide ((r : Int) = 7) = false := decide_eq_false (by omega)
            have en7 : ¬ (r : Int) = 7 := by omega
            have eb27 : ((r : Int) == 27) = false := beq_eq_false_iff_ne.2 (by omega)
            have ed27 : decide ((r : Int) = 27) = false := decide_eq_false (by omega)
            have en27 : ¬ (r : Int) = 27 := by omega
            have lt32 : ¬ (r : Int) < 32 := by omega
            have ld32 : decide ((r : Int) < 32) = false := decide_eq_false (by omega)
            have ltL : (L : Int) < 600 := by omega
            have ldL : decide ((L : Int) < 600) = true := decide_eq_true (by omega)
            clear HT HE HK h1 h2 h3 h4 hm hmn
            go_enter Try.func64, Try.ntmps64
            have HPt := Lib.hid (show (Kd.int .i32).R tR w n0 (fun _ => True) (.slice A L c) (nat S.text) from by have := HP.out.txt; rw [HL.out] at this; exact this)
            go_wp2_with (at_builtin; refine appke (Kd.int .i32) n0 (.tmp 53) (.tmp 55) 52 tR (.int .i32 0) 4 rfl rfl Try.underlying52 info_r rfl (by decide) (by decide) (.slice A L c) (nat S.text) (r : Int) [.int .i32 (r : Int)] (fun _ => True) (fun _ => False) rfl rfl rfl (fun _ h => h.elim) (fun _ _ => trivial) HPt.out (Nat.le_trans HP.out.ge (Nat.le_of_lt HP.out.lt)) (by rw [nat_length, HL.out]; have := HTx.out; have := HL.out; omega) ?_; intro v2 w2 hr2 hg2 hno2; obtain ⟨A2, c2, hv2⟩ := Kd.R_slice hr2; obtain ⟨m2, hm2⟩ : ∃ m, (nat S.text ++ [(r : Int)]).length = m := ⟨_, rfl⟩; rw [hm2] at hv2; subst hv2; clear hm2; (have HR2 := Lib.hid hr2); (have HG2 := Lib.hid hg2); (have HN2 := Lib.hid hno2); (have hb2 := blk_grown HP.out.blk ((World.grownBy_alloc w _ _).trans hg2) (Kd.R_ne HPt.out HP.out.blk (by decide))); (have HB2 := Lib.hid hb2); (have fz2 := blk_frozen hb2); (have d12 : w2.cell? ⟨b, 12, none⟩ = some (.slice A S.text.length c) := (by rw [blk_cell hb2]; rfl)); clear hr2 hg2 hno2 hb2)
            first | go_end0 | ((try simp only [Exit.inBlock, Exit.then]); refine bodyPost_ret (results_none rfl _ _ _) rfl ?_)
            have hPM : PM n0 b vp (.slice A L c) vo S evs w := by have := HP.out; rw [HL.out] at this; exact this
            have he := tx_end hPM HG2.out HR2.out HN2.out (by have := HL.out; have := Hlt.out; omega) (blk_set HB2.out 12 (.slice A2 m2 c2)) (grown_set w2 b 12 _)
            exact ⟨rfl, _, _, _, by rw [Hv.out, List.append_nil]; exact he.1, he.2⟩
          · have Hv := Lib.hid (show q = ({ S with gone := true }, []) from by rw [← Hq.out, opS_def, if_neg h1, if_neg h2, if_neg h3, if_neg (fun h => hmn h.1), if_neg hmn, if_neg (by rw [HL.out]; exact h4)])
            have eb7 : ((r : Int) == 7) = false := beq_eq_false_iff_ne.2 (by omega)
            have ed7 : decide ((r : Int) = 7) = false := decide_eq_false (by omega)
            have en7 : ¬ (r : Int) = 7 := by omega
            have eb27 : ((r : Int) == 27) = false := beq_eq_false_iff_ne.2 (by omega)
            have ed27 : decide ((r : Int) = 27) = false := decide_eq_false (by omega)
            have en27 : ¬ (r : Int) = 27 := by omega
            have lt32 : ¬ (r : Int) < 32 := by omega
            have ld32 : decide ((r : Int) < 32) = false := decide_eq_false (by omega)
            have ltL : ¬ (L : Int) < 600 := by omega
            have ldL : decide ((L : Int) < 600) = false := decide_eq_false (by omega)
            clear HT HE HK h1 h2 h3 h4 hm hmn
            go_enter Try.func64, Try.ntmps64
            go_wp2_with fail
            first | go_end0 | ((try simp only [Exit.inBlock, Exit.then]); refine bodyPost_ret (results_none rfl _ _ _) rfl ?_)
            have hb := blk_set HP.out.blk 10 (.bool true)
            have hg := grown_set w b 10 (.bool true)
            exact ⟨rfl, vp, _, vo, by rw [Hv.out, List.append_nil]; exact HP.out.wr hb hg rfl rfl ⟨HP.out.oks.val, HP.out.oks.len, HP.out.oks.txt, HP.out.oks.st⟩, by rw [HL.out]; exact TR.obj hg (NO.self _ _) (NO.self _ _) (NO.self _ _)⟩
theorem takS_ne {S : St} (h : S.st ≠ 3) (r : Nat) : takS S r = takN S r := by
  unfold takS takN
  by_cases h1 : r = 24 ∨ r = 26
  · rw [if_pos h1, if_pos h1]
  · rw [if_neg h1, if_neg h1]
    by_cases h2 : r = 127
    · rw [if_pos h2, if_pos h2]
    · rw [if_neg h2, if_neg h2, if_neg h]
set_option maxRecDepth 100000 in
set_option maxHeartbeats 6400000 in
theorem take_any (n0 b r : Nat) (vp vt vo : Value) (S : St) (evs : List Ev) (w : World) (h : PM n0 b vp vt vo S evs w) (hl : evs.length ≤ 999999999) (hr : r < 1114112) :
    Calls Try.prog 50 #[.pointer (some ⟨b, 0, none⟩), .int .i32 (r : Int)] w (PoC n0 b vp vt vo evs (takS S r) w) := by
  by_cases hst : S.st = 3
  · have HP := Lib.hid h
    have HE0 := Lib.hid (enter_any n0 b 0 (by decide) _ vp vt vo S evs w h)
    have HO := Lib.hid (operating_any n0 b r vp vt vo S evs w h hl hr)
    have c1 : w.cell? ⟨b, 1, none⟩ = some (.int .i64 3) := by rw [blk_cell h.blk, ← show (S.st : Int) = 3 from by omega]; rfl
    obtain ⟨q, hq⟩ : ∃ q, takS S r = q := ⟨_, rfl⟩
    have Hq := Lib.hid hq
    rw [hq]
    clear hq h hl
    by_cases h1 : r = 24
    · have Hv := Lib.hid (show q = (enS 0, []) from by rw [← Hq.out]; unfold takS; rw [if_pos (.inl h1)])
      have eb24 : ((r : Int) == 24) = true := beq_iff_eq.2 (by omega)
      have ed24 : decide ((r : Int) = 24) = true := decide_eq_true (by omega)
      have eb26 : ((r : Int) == 26) = false := beq_eq_false_iff_ne.2 (by omega)
      have ed26 : decide ((r : Int) = 26) = false := decide_eq_false (by omega)
      have en26 : ¬ (r : Int) = 26 := by omega
      clear HO h1 hst hr
      go_enter Try.func50, Try.ntmps50
      go_wp2_with (go_at_call 63; refine HE0.out.mono ?_; rintro e w1 ⟨rfl, hp, ht⟩; (have HPp := Lib.hid hp); (have HTt := Lib.hid ht); clear hp ht)
      first | go_end0 | ((try simp only [Exit.inBlock, Exit.then]); refine bodyPost_ret (results_none rfl _ _ _) rfl ?_)
      exact ⟨rfl, _, _, _, by rw [Hv.out, List.append_nil]; exact HPp.out, HTt.out⟩
    · by_cases h2 : r = 26
      · have Hv := Lib.hid (show q = (enS 0, []) from by rw [← Hq.out]; unfold takS; rw [if_pos (.inr h2)])
        have eb24 : ((r : Int) == 24) = false := beq_eq_false_iff_ne.2 (by omega)
        have ed24 : decide ((r : Int) = 24) = false := decide_eq_false (by omega)
        have en24 : ¬ (r : Int) = 24 := by omega
        have eb26 : ((r : Int) == 26) = true := beq_iff_eq.2 (by omega)
        have ed26 : decide ((r : Int) = 26) = true := decide_eq_true (by omega)
        clear HO h1 h2 hst hr
        go_enter Try.func50, Try.ntmps50
        go_wp2_with (go_at_call 63; refine HE0.out.mono ?_; rintro e w1 ⟨rfl, hp, ht⟩; (have HPp := Lib.hid hp); (have HTt := Lib.hid ht); clear hp ht)
        first | go_end0 | ((try simp only [Exit.inBlock, Exit.then]); refine bodyPost_ret (results_none rfl _ _ _) rfl ?_)
        exact ⟨rfl, _, _, _, by rw [Hv.out, List.append_nil]; exact HPp.out, HTt.out⟩
      · by_cases h3 : r = 127
        · have Hv := Lib.hid (show q = (S, []) from by rw [← Hq.out]; unfold takS; rw [if_neg (by omega), if_pos h3])
          have eb24 : ((r : Int) == 24) = false := beq_eq_false_iff_ne.2 (by omega)
          have ed24 : decide ((r : Int) = 24) = false := decide_eq_false (by omega)
          have en24 : ¬ (r : Int) = 24 := by omega
          have eb26 : ((r : Int) == 26) = false := beq_eq_false_iff_ne.2 (by omega)
          have ed26 : decide ((r : Int) = 26) = false := decide_eq_false (by omega)
          have en26 : ¬ (r : Int) = 26 := by omega
          have eb127 : ((r : Int) == 127) = true := beq_iff_eq.2 (by omega)
          have ed127 : decide ((r : Int) = 127) = true := decide_eq_true (by omega)
          clear HO HE0 h1 h2 h3 hst hr
          go_enter Try.func50, Try.ntmps50
          go_wp2_with fail
          first | go_end0 | ((try simp only [Exit.inBlock, Exit.then]); refine bodyPost_ret (results_none rfl _ _ _) rfl ?_)
          exact ⟨rfl, vp, vt, vo, by rw [Hv.out, List.append_nil]; exact HP.out, TR.refl _ _ _ _ _⟩
        · have Hv := Lib.hid (show q = opS S r from by rw [← Hq.out]; unfold takS; rw [if_neg (by omega), if_neg h3, if_pos hst])
          have eb24 : ((r : Int) == 24) = false := beq_eq_false_iff_ne.2 (by omega)
          have ed24 : decide ((r : Int) = 24) = false := decide_eq_false (by omega)
          have en24 : ¬ (r : Int) = 24 := by omega
          have eb26 : ((r : Int) == 26) = false := beq_eq_false_iff_ne.2 (by omega)
          have ed26 : decide ((r : Int) = 26) = false := decide_eq_false (by omega)
          have en26 : ¬ (r : Int) = 26 := by omega
          have eb127 : ((r : Int) == 127) = false := beq_eq_false_iff_ne.2 (by omega)
          have ed127 : decide ((r : Int) = 127) = false := decide_eq_false (by omega)
          have en127 : ¬ (r : Int) = 127 := by omega
          clear HE0 h1 h2 h3 hst hr
          go_enter Try.func50, Try.ntmps50
          go_wp2_with (go_at_call 64; refine HO.out.mono ?_; rintro e w1 ⟨rfl, vp1, vt1, vo1, hp, ht⟩; (have HPp := Lib.hid hp); (have HTt := Lib.hid ht); clear hp ht)
          first | go_end0 | ((try simp only [Exit.inBlock, Exit.then]); refine bodyPost_ret (results_none rfl _ _ _) rfl ?_)
          exact ⟨rfl, _, _, _, by rw [Hv.out]; exact HPp.out, HTt.out⟩
  · rw [takS_ne hst]
    exact taken_any n0 b r vp vt vo S evs w h hl hr hst
end Go.Proofs.Ytbcononfgpfdbaa.An
