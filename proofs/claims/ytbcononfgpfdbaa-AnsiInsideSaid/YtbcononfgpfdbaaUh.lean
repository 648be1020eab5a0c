/-
  ansi: tell; take, where no text of the system is open.
-/
import Derived.Test.YtbcononfgpfdbaaUg
namespace Go.Proofs.Ytbcononfgpfdbaa.An
open Go.RowKit Go.Proofs.Ytbcononfgpfdbaa.L Go.Proofs.Ytbcononfgpfdbaa.N Go.Proofs.YtbcononfgpfdbaaW.PrintWords

theorem conv_runes {A : Option Addr} {c : Nat} {l : List Nat} {w : World} (h : (Kd.int .i32).C w A l.length (nat l)) : (convert 52 9 (.slice A l.length c)).run Try.prog w = .ok (.string (runesBytes (nat l))) w := by
  cases A with
  | none =>
    have h0 : l = [] := by
      rcases (B_open h).2 with e | ⟨_, _, e, _⟩
      · exact e
      · cases e
    subst h0
    exact run_convert_runes_nil w _ _ _ _ _ Try.underlying52 Try.underlying21 Try.underlying9
  | some a =>
    have := run_convert_runes (P := Try.prog) w 52 9 21 a l.length c (nat l) (by rw [nat_length]; exact Nat.le_refl _) Try.underlying52 Try.underlying21 Try.underlying9 (fun j hj => by
      rw [nat_length] at hj
      obtain ⟨b, off, e, _, hc⟩ := B_at h (by omega)
      injection e with e
      subst e
      rw [add_at, hc j hj, nat_get hj])
    rwa [List.take_of_length_le (by rw [nat_length]; exact Nat.le_refl _)] at this
set_option maxRecDepth 100000 in
set_option maxHeartbeats 3200000 in
theorem tell_any (n0 b : Nat) (vp vt vo : Value) (S : St) (evs : List Ev) (w : World) (h : PM n0 b vp vt vo S evs w) (hl : evs.length ≤ 1000000000) :
    Calls Try.prog 69 #[.pointer (some ⟨b, 0, none⟩)] w (PoC n0 b vp vt vo evs (telS S) w) := by
  have HP := Lib.hid h
  have HL := Lib.hid hl
  obtain ⟨A, c, hv, _, hC⟩ := Kd.R_reads h.txt
  rw [nat_length] at hv hC
  subst hv
  have hcv := conv_runes (c := c) hC
  have fz := blk_frozen h.blk
  have c12 : w.cell? ⟨b, 12, none⟩ = some (.slice A S.text.length c) := by rw [blk_cell h.blk]; rfl
  have c8 : w.cell? ⟨b, 8, none⟩ = some (.string ⟨#[]⟩) := by rw [blk_cell h.blk]; rfl
  have Hr := Lib.hid (show telS S = (enS 0, endE S 5 0 (runesBytes (nat S.text))) from rfl)
  obtain ⟨r, hr⟩ : ∃ r, telS S = r := ⟨_, rfl⟩
  rw [hr] at Hr ⊢
  generalize runesBytes (nat S.text) = t at *
  clear h hl hC hr
  go_enter Try.func69, Try.ntmps69
  go_upto_region 1 with (fail)
  refine wp_at fun W hW => ?_
  have hb := blk_set HP.out.blk 8 (.string t)
  have hg := grown_set w b 8 (.string t)
  rw [← hW] at hb hg
  have hQ : PMt t n0 b vp (.slice A S.text.length c) vo S evs W := HP.out.wr hb hg rfl rfl HP.out.oks
  have HT := Lib.hid (show TR b vp (.slice A S.text.length c) vo vp (.slice A S.text.length c) vo w W from TR.obj hg (NO.self _ _) (NO.self _ _) (NO.self _ _))
  have HN := Lib.hid (end_any n0 b 5 0 t vp _ vo S evs W hQ HL.out)
  clear hW hb hg hQ fz c12 c8 hcv
  go_wp2_with (go_at_call 71; refine HN.out.mono ?_; rintro e w1 ⟨rfl, vo1, hp, ht⟩; (have HPp := Lib.hid hp); (have HTt := Lib.hid ht); clear hp ht)
  first | go_end0 | ((try simp only [Exit.inBlock, Exit.then]); refine bodyPost_ret (results_none rfl _ _ _) rfl ?_)
  exact ⟨rfl, _, _, _, by rw [Hr.out]; exact HPp.out, HT.out.trans HTt.out⟩
/-- an event behind others, and the parser's cell of them set -/
theorem ev_end {n0 b : Nat} {vp vt vo v1 : Value} {S : St} {evs : List Ev} {ev : Ev} {W w1 W2 : World} {o : Obj} (h : PM n0 b vp vt vo S evs W) (hg : (W.alloc o).grownBy w1 vo.ownBlock) (hR : kE.R tE w1 n0 (fun k => some k ≠ vp.ownBlock) v1 (evs ++ [ev])) (hno : NO W vo v1)
    (hb : W2.heap[b]? = some (.cells (PC S vp vt v1) tP (0, 0))) (hg2 : w1.grownBy W2 (some b)) : PM n0 b vp vt v1 S (evs ++ [ev]) W2 ∧ TR b vp vt vo vp vt v1 W W2 := by
  have hga : W.grownBy w1 vo.ownBlock := (World.grownBy_alloc W o _).trans hg
  have hb1 : w1.heap[b]? = some (.cells (PC S vp vt vo) tP (0, 0)) := blk_grown h.blk hga (Kd.R_ne h.out h.blk (by decide))
  refine ⟨⟨hb, R_obj (Kd.R_over h.par h.out (by intro q hq; simp [Kd.int, Kd.scalar] at hq; subst hq; decide) hga) hb1 (by intro q hq; simp [Kd.int, Kd.scalar] at hq; subst hq; decide) hg2,
    R_obj (Kd.R_over h.txt h.out (by intro q hq; simp [Kd.int, Kd.scalar] at hq; subst hq; decide) hga) hb1 (by intro q hq; simp [Kd.int, Kd.scalar] at hq; subst hq; decide) hg2, out_obj hR hb1 hg2, h.ge, h.oks⟩, ?_⟩
  exact ⟨hg2.os.trans hga.os, hg2.tape.trans hga.tape, hg2.output.trans hga.output, Nat.le_trans hga.size hg2.size, fun k hk h1 _ _ h4 => (hg2.block k (Nat.lt_of_lt_of_le hk hga.size) (fun e => h1 (by injection e))).trans (hga.block k hk h4), NO.self _ _, NO.self _ _, hno⟩
theorem takN_def (S : St) (r : Nat) : takN S r = if r = 24 ∨ r = 26 then (enS 0, []) else if r = 127 then (S, []) else if r = 27 then (enS 1, []) else if r < 32 then (S, [(2, (r : Int), 0, 0, 0, [], .empty)]) else if S.st = 0 ∨ 128 ≤ r then (enS 0, [(1, (r : Int), 0, 0, 0, [], .empty)]) else if S.st = 1 then escS S r else conS S r := rfl
theorem M_pt (w : World) (n0 : Nat) (kd pt : Int) : kE.M w n0 (fun _ => False) (kd, pt, 0, 0, 0, [], .empty) [.int .i64 kd, .int .i32 pt, .int .u8 0, .int .u8 0, .int .u8 0, .slice none 0 0, .string ⟨#[]⟩] :=
  ⟨[_], _, rfl, rfl, [_], _, rfl, rfl, [_], _, rfl, rfl, [_], _, rfl, rfl, [_], _, rfl, rfl, [_], _, rfl, ⟨_, rfl, Kd.R_nil _ _ _ _ _⟩, rfl⟩
set_option maxRecDepth 100000 in
set_option maxHeartbeats 6400000 in
theorem taken_any (n0 b r : Nat) (vp vt vo : Value) (S : St) (evs : List Ev) (w : World) (h : PM n0 b vp vt vo S evs w) (hl : evs.length ≤ 999999999) (hr : r < 1114112) (hst : S.st ≠ 3) :
    Calls Try.prog 50 #[.pointer (some ⟨b, 0, none⟩), .int .i32 (r : Int)] w (PoC n0 b vp vt vo evs (takN S r) w) := by
  have HP := Lib.hid h
  have HL := Lib.hid hl
  have HE0 := Lib.hid (enter_any n0 b 0 (by decide) _ vp vt vo S evs w h)
  have HE1 := Lib.hid (enter_any n0 b 1 (by decide) _ vp vt vo S evs w h)
  have HS := Lib.hid (fun hc => escaped_any n0 b r vp vt vo S evs w h (by omega) hc)
  have HC := Lib.hid (fun hc => control_any n0 b r vp vt vo S evs w h (by omega) hc)
  have fz := blk_frozen h.blk
  have c1 : w.cell? ⟨b, 1, none⟩ = some (.int .i64 (S.st : Int)) := by rw [blk_cell h.blk]; rfl
  have y1 : (r : Int) < 1114112 := by omega
  have y2 : (0 : Int) ≤ (r : Int) := by omega
  obtain ⟨q, hq⟩ : ∃ q, takN S r = q := ⟨_, rfl⟩
  have Hq := Lib.hid hq
  rw [hq]
  have hok := h.oks.st
  have e3a : ((S.st : Int) == 3) = false := beq_eq_false_iff_ne.2 (by omega)
  have e3b : decide ((S.st : Int) = 3) = false := decide_eq_false (by omega)
  have e3c : ¬ (S.st : Int) = 3 := by omega
  clear hq h hl
  by_cases h1 : r = 24
  · have Hv := Lib.hid (show q = (enS 0, []) from by rw [← Hq.out, takN_def, if_pos (.inl h1)])
    have eb24 : ((r : Int) == 24) = true := beq_iff_eq.2 (by omega)
    have ed24 : decide ((r : Int) = 24) = true := decide_eq_true (by omega)
    have eb26 : ((r : Int) == 26) = false := beq_eq_false_iff_ne.2 (by omega)
    have ed26 : decide ((r : Int) = 26) = false := decide_eq_false (by omega)
    have en26 : ¬ (r : Int) = 26 := by omega
    clear HE1 HS HC hok hst h1 hr
    go_enter Try.func50, Try.ntmps50
    go_wp2_with (go_at_call 63; refine HE0.out.mono ?_; rintro e w1 ⟨rfl, hp, ht⟩; (have HPp := Lib.hid hp); (have HTt := Lib.hid ht); clear hp ht HE0)
    first | go_end0 | ((try simp only [Exit.inBlock, Exit.then]); refine bodyPost_ret (results_none rfl _ _ _) rfl ?_)
    exact ⟨rfl, _, _, _, by rw [Hv.out, List.append_nil]; exact HPp.out, HTt.out⟩
  · by_cases h2 : r = 26
    · have Hv := Lib.hid (show q = (enS 0, []) from by rw [← Hq.out, takN_def, if_pos (.inr h2)])
      have eb24 : ((r : Int) == 24) = false := beq_eq_false_iff_ne.2 (by omega)
      have ed24 : decide ((r : Int) = 24) = false := decide_eq_false (by omega)
      have en24 : ¬ (r : Int) = 24 := by omega
      have eb26 : ((r : Int) == 26) = true := beq_iff_eq.2 (by omega)
      have ed26 : decide ((r : Int) = 26) = true := decide_eq_true (by omega)
      clear HE1 HS HC hok hst h1 h2 hr
      go_enter Try.func50, Try.ntmps50
      go_wp2_with (go_at_call 63; refine HE0.out.mono ?_; rintro e w1 ⟨rfl, hp, ht⟩; (have HPp := Lib.hid hp); (have HTt := Lib.hid ht); clear hp ht HE0)
      first | go_end0 | ((try simp only [Exit.inBlock, Exit.then]); refine bodyPost_ret (results_none rfl _ _ _) rfl ?_)
      exact ⟨rfl, _, _, _, by rw [Hv.out, List.append_nil]; exact HPp.out, HTt.out⟩
    · by_cases h3 : r = 127
      · have Hv := Lib.hid (show q = (S, []) from by rw [← Hq.out, takN_def, if_neg (by omega), if_pos h3])
        have eb24 : ((r : Int) == 24) = false := beq_eq_false_iff_ne.2 (by omega)
        have ed24 : decide ((r : Int) = 24) = false := decide_eq_false (by omega)
        have en24 : ¬ (r : Int) = 24 := by omega
        have eb26 : ((r : Int) == 26) = false := beq_eq_false_iff_ne.2 (by omega)
        have ed26 : decide ((r : Int) = 26) = false := decide_eq_false (by omega)
        have en26 : ¬ (r : Int) = 26 := by omega
        have eb127 : ((r : Int) == 127) = true := beq_iff_eq.2 (by omega)
        have ed127 : decide ((r : Int) = 127) = true := decide_eq_true (by omega)
        clear HE0 HE1 HS HC hok hst h1 h2 h3 hr
        go_enter Try.func50, Try.ntmps50
        go_wp2_with fail
        first | go_end0 | ((try simp only [Exit.inBlock, Exit.then]); refine bodyPost_ret (results_none rfl _ _ _) rfl ?_)
        exact ⟨rfl, vp, vt, vo, by rw [Hv.out, List.append_nil]; exact HP.out, TR.refl _ _ _ _ _⟩
      · by_cases h4 : r = 27
        · have Hv := Lib.hid (show q = (enS 1, []) from by rw [← Hq.out, takN_def, if_neg (by omega), if_neg h3, if_pos h4])
          have eb24 : ((r : Int) == 24) = false := beq_eq_false_iff_ne.2 (by omega)
          have ed24 : decide ((r : Int) = 24) = false := decide_eq_false (by omega)
          have en24 : ¬ (r : Int) = 24 := by omega
          have eb26 : ((r : Int) == 26) = false := beq_eq_false_iff_ne.2 (by omega)
          have ed26 : decide ((r : Int) = 26) = false := decide_eq_false (by omega)
          have en26 : ¬ (r : Int) = 26 := by omega
          have eb127 : ((r : Int) == 127) = false := beq_eq_false_iff_ne.2 (by omega)
          have ed127 : decide ((r : Int) = 127) = false := decide_eq_false (by omega)
          have en127 : ¬ (r : Int) = 127 := by omega
          have eb27 : ((r : Int) == 27) = true := beq_iff_eq.2 (by omega)
          have ed27 : decide ((r : Int) = 27) = true := decide_eq_true (by omega)
          clear HE0 HS HC hok hst h1 h2 h3 h4 hr
          go_enter Try.func50, Try.ntmps50
          go_wp2_with (go_at_call 63; refine HE1.out.mono ?_; rintro e w1 ⟨rfl, hp, ht⟩; (have HPp := Lib.hid hp); (have HTt := Lib.hid ht); clear hp ht)
          first | go_end0 | ((try simp only [Exit.inBlock, Exit.then]); refine bodyPost_ret (results_none rfl _ _ _) rfl ?_)
          exact ⟨rfl, _, _, _, by rw [Hv.out, List.append_nil]; exact HPp.out, HTt.out⟩
        · by_cases h5 : r < 32
          · have Hv := Lib.hid (show q = (S, [(2, (r : Int), 0, 0, 0, [], .empty)]) from by rw [← Hq.out, takN_def, if_neg (by omega), if_neg h3, if_neg h4, if_pos h5])
            have eb24 : ((r : Int) == 24) = false := beq_eq_false_iff_ne.2 (by omega)
            have ed24 : decide ((r : Int) = 24) = false := decide_eq_false (by omega)
            have en24 : ¬ (r : Int) = 24 := by omega
            have eb26 : ((r : Int) == 26) = false := beq_eq_false_iff_ne.2 (by omega)
            have ed26 : decide ((r : Int) = 26) = false := decide_eq_false (by omega)
            have en26 : ¬ (r : Int) = 26 := by omega
            have eb127 : ((r : Int) == 127) = false := beq_eq_false_iff_ne.2 (by omega)
            have ed127 : decide ((r : Int) = 127) = false := decide_eq_false (by omega)
            have en127 : ¬ (r : Int) = 127 := by omega
            have eb27 : ((r : Int) == 27) = false := beq_eq_false_iff_ne.2 (by omega)
            have ed27 : decide ((r : Int) = 27) = false := decide_eq_false (by omega)
            have en27 : ¬ (r : Int) = 27 := by omega
            have lt32 : (r : Int) < 32 := by omega
            have ld32 : decide ((r : Int) < 32) = true := decide_eq_true (by omega)
            clear HE0 HE1 HS HC hok hst h1 h2 h3 h4 h5 hr
            go_enter Try.func50, Try.ntmps50
            have c13 : w.cell? ⟨b, 13, none⟩ = some vo := by rw [blk_cell HP.out.blk]; rfl
            go_wp2_with (at_builtin; refine appke kE n0 (.tmp 41) (.tmp 44) 58 tE (.agg #[.int .i64 0, .int .i32 0, .int .u8 0, .int .u8 0, .int .u8 0, .slice none 0 0, .string ⟨#[]⟩]) 56 rfl rfl Try.underlying58 info_E rfl (by decide) (by decide) vo evs (2, (r : Int), 0, 0, 0, [], .empty) [.int .i64 2, .int .i32 (r : Int), .int .u8 0, .int .u8 0, .int .u8 0, .slice none 0 0, .string ⟨#[]⟩] (fun k => some k ≠ (vp : Value).ownBlock) (fun _ => False) rfl rfl (M_pt w n0 2 (r : Int)) (fun _ h => h.elim) (fun k hk (e : some k = (vp : Value).ownBlock) => by have := Kd.R_lt HP.out.par k e.symm; omega) HP.out.out (Nat.le_trans HP.out.ge (Nat.le_of_lt HP.out.lt)) (by have := HL.out; omega) ?_; intro v2 w2 hr2 hg2 hno2; obtain ⟨A2, c2, hv2⟩ := Kd.R_slice hr2; obtain ⟨m2, hm2⟩ : ∃ m, (evs ++ [((2 : Int), (r : Int), (0 : Int), (0 : Int), (0 : Int), ([] : List Int), ByteArray.empty)]).length = m := ⟨_, rfl⟩; rw [hm2] at hv2; subst hv2; clear hm2; (have HR2 := Lib.hid hr2); (have HG2 := Lib.hid hg2); (have HN2 := Lib.hid hno2); (have hb2 := blk_grown HP.out.blk ((World.grownBy_alloc w _ _).trans hg2) (Kd.R_ne HP.out.out HP.out.blk (by decide))); (have HB2 := Lib.hid hb2); (have fz2 := blk_frozen hb2); (have d13 : w2.cell? ⟨b, 13, none⟩ = some vo := (by rw [blk_cell hb2]; rfl)); clear hr2 hg2 hno2 hb2)
            first | go_end0 | ((try simp only [Exit.inBlock, Exit.then]); refine bodyPost_ret (results_none rfl _ _ _) rfl ?_)
            have he := ev_end HP.out HG2.out HR2.out HN2.out (blk_set HB2.out 13 (.slice A2 m2 c2)) (grown_set w2 b 13 _)
            exact ⟨rfl, _, _, _, by rw [Hv.out]; exact he.1, he.2⟩
          · by_cases h6 : S.st = 0
            · rw [h6] at c1
              have Hv := Lib.hid (show q = (enS 0, [(1, (r : Int), 0, 0, 0, [], .empty)]) from by rw [← Hq.out, takN_def, if_neg (by omega), if_neg h3, if_neg h4, if_neg h5, if_pos (.inl h6)])
              have eb24 : ((r : Int) == 24) = false := beq_eq_false_iff_ne.2 (by omega)
              have ed24 : decide ((r : Int) = 24) = false := decide_eq_false (by omega)
              have en24 : ¬ (r : Int) = 24 := by omega
              have eb26 : ((r : Int) == 26) = false := beq_eq_false_iff_ne.2 (by omega)
              have ed26 : decide ((r : Int) = 26) = false := decide_eq_false (by omega)
              have en26 : ¬ (r : Int) = 26 := by omega
              have eb127 : ((r : Int) == 127) = false := beq_eq_false_iff_ne.2 (by omega)
              have ed127 : decide ((r : Int) = 127) = false := decide_eq_false (by omega)
              have en127 : ¬ (r : Int) = 127 := by omega
              have eb27 : ((r : Int) == 27) = false := beq_eq_false_iff_ne.2 (by omega)
              have ed27 : decide ((r : Int) = 27) = false := decide_eq_false (by omega)
              have en27 : ¬ (r : Int) = 27 := by omega
              have lt32 : ¬ (r : Int) < 32 := by omega
              have ld32 : decide ((r : Int) < 32) = false := decide_eq_false (by omega)
              clear HE1 HS HC hok hst h1 h2 h3 h4 h5 h6 e3a e3b e3c hr
              go_enter Try.func50, Try.ntmps50
              go_upto_region 12 with (go_at_call 63; refine HE0.out.mono ?_; rintro e w1 ⟨rfl, hp, ht⟩; (have HPp := Lib.hid hp); (have HTt := Lib.hid ht); clear hp ht HE0)
              have c13 : w1.cell? ⟨b, 13, none⟩ = some vo := by rw [blk_cell HPp.out.blk]; rfl
              clear fz c1
              go_wp2_with (at_builtin; refine appke kE n0 (.tmp 64) (.tmp 67) 58 tE (.agg #[.int .i64 0, .int .i32 0, .int .u8 0, .int .u8 0, .int .u8 0, .slice none 0 0, .string ⟨#[]⟩]) 56 rfl rfl Try.underlying58 info_E rfl (by decide) (by decide) vo evs (1, (r : Int), 0, 0, 0, [], .empty) [.int .i64 1, .int .i32 (r : Int), .int .u8 0, .int .u8 0, .int .u8 0, .slice none 0 0, .string ⟨#[]⟩] (fun k => some k ≠ (.slice none 0 0 : Value).ownBlock) (fun _ => False) rfl rfl (M_pt w1 n0 1 (r : Int)) (fun _ h => h.elim) (fun k hk (e : some k = (.slice none 0 0 : Value).ownBlock) => by have := Kd.R_lt HPp.out.par k e.symm; omega) HPp.out.out (Nat.le_trans HPp.out.ge (Nat.le_of_lt HPp.out.lt)) (by have := HL.out; omega) ?_; intro v2 w2 hr2 hg2 hno2; obtain ⟨A2, c2, hv2⟩ := Kd.R_slice hr2; obtain ⟨m2, hm2⟩ : ∃ m, (evs ++ [((1 : Int), (r : Int), (0 : Int), (0 : Int), (0 : Int), ([] : List Int), ByteArray.empty)]).length = m := ⟨_, rfl⟩; rw [hm2] at hv2; subst hv2; clear hm2; (have HR2 := Lib.hid hr2); (have HG2 := Lib.hid hg2); (have HN2 := Lib.hid hno2); (have hb2 := blk_grown HPp.out.blk ((World.grownBy_alloc w1 _ _).trans hg2) (Kd.R_ne HPp.out.out HPp.out.blk (by decide))); (have HB2 := Lib.hid hb2); (have fz2 := blk_frozen hb2); (have d13 : w2.cell? ⟨b, 13, none⟩ = some vo := (by rw [blk_cell hb2]; rfl)); clear hr2 hg2 hno2 hb2)
              first | go_end0 | ((try simp only [Exit.inBlock, Exit.then]); refine bodyPost_ret (results_none rfl _ _ _) rfl ?_)
              have he := ev_end HPp.out HG2.out HR2.out HN2.out (blk_set HB2.out 13 (.slice A2 m2 c2)) (grown_set w2 b 13 _)
              exact ⟨rfl, _, _, _, by rw [Hv.out]; exact he.1, HTt.out.trans he.2⟩
            · by_cases h7 : 128 ≤ r
              · have Hv := Lib.hid (show q = (enS 0, [(1, (r : Int), 0, 0, 0, [], .empty)]) from by rw [← Hq.out, takN_def, if_neg (by omega), if_neg h3, if_neg h4, if_neg h5, if_pos (.inr h7)])
                have eb24 : ((r : Int) == 24) = false := beq_eq_false_iff_ne.2 (by omega)
                have ed24 : decide ((r : Int) = 24) = false := decide_eq_false (by omega)
                have en24 : ¬ (r : Int) = 24 := by omega
                have eb26 : ((r : Int) == 26) = false := beq_eq_false_iff_ne.2 (by omega)
                have ed26 : decide ((r : Int) = 26) = false := decide_eq_false (by omega)
                have en26 : ¬ (r : Int) = 26 := by omega
                have eb127 : ((r : Int) == 127) = false := beq_eq_false_iff_ne.2 (by omega)
                have ed127 : decide ((r : Int) = 127) = false := decide_eq_false (by omega)
                have en127 : ¬ (r : Int) = 127 := by omega
                have eb27 : ((r : Int) == 27) = false := beq_eq_false_iff_ne.2 (by omega)
                have ed27 : decide ((r : Int) = 27) = false := decide_eq_false (by omega)
                have en27 : ¬ (r : Int) = 27 := by omega
                have lt32 : ¬ (r : Int) < 32 := by omega
                have ld32 : decide ((r : Int) < 32) = false := decide_eq_false (by omega)
                have ebs0 : ((S.st : Int) == 0) = false := beq_eq_false_iff_ne.2 (by omega)
                have eds0 : decide ((S.st : Int) = 0) = false := decide_eq_false (by omega)
                have ens0 : ¬ (S.st : Int) = 0 := by omega
                have le128 : (128 : Int) ≤ r := by omega
                have lf128 : decide ((128 : Int) ≤ r) = true := decide_eq_true (by omega)
                clear HE1 HS HC hok hst h1 h2 h3 h4 h5 h6 h7 hr
                go_enter Try.func50, Try.ntmps50
                go_upto_region 12 with (go_at_call 63; refine HE0.out.mono ?_; rintro e w1 ⟨rfl, hp, ht⟩; (have HPp := Lib.hid hp); (have HTt := Lib.hid ht); clear hp ht HE0)
                have c13 : w1.cell? ⟨b, 13, none⟩ = some vo := by rw [blk_cell HPp.out.blk]; rfl
                clear fz c1
                go_wp2_with (at_builtin; refine appke kE n0 (.tmp 64) (.tmp 67) 58 tE (.agg #[.int .i64 0, .int .i32 0, .int .u8 0, .int .u8 0, .int .u8 0, .slice none 0 0, .string ⟨#[]⟩]) 56 rfl rfl Try.underlying58 info_E rfl (by decide) (by decide) vo evs (1, (r : Int), 0, 0, 0, [], .empty) [.int .i64 1, .int .i32 (r : Int), .int .u8 0, .int .u8 0, .int .u8 0, .slice none 0 0, .string ⟨#[]⟩] (fun k => some k ≠ (.slice none 0 0 : Value).ownBlock) (fun _ => False) rfl rfl (M_pt w1 n0 1 (r : Int)) (fun _ h => h.elim) (fun k hk (e : some k = (.slice none 0 0 : Value).ownBlock) => by have := Kd.R_lt HPp.out.par k e.symm; omega) HPp.out.out (Nat.le_trans HPp.out.ge (Nat.le_of_lt HPp.out.lt)) (by have := HL.out; omega) ?_; intro v2 w2 hr2 hg2 hno2; obtain ⟨A2, c2, hv2⟩ := Kd.R_slice hr2; obtain ⟨m2, hm2⟩ : ∃ m, (evs ++ [((1 : Int), (r : Int), (0 : Int), (0 : Int), (0 : Int), ([] : List Int), ByteArray.empty)]).length = m := ⟨_, rfl⟩; rw [hm2] at hv2; subst hv2; clear hm2; (have HR2 := Lib.hid hr2); (have HG2 := Lib.hid hg2); (have HN2 := Lib.hid hno2); (have hb2 := blk_grown HPp.out.blk ((World.grownBy_alloc w1 _ _).trans hg2) (Kd.R_ne HPp.out.out HPp.out.blk (by decide))); (have HB2 := Lib.hid hb2); (have fz2 := blk_frozen hb2); (have d13 : w2.cell? ⟨b, 13, none⟩ = some vo := (by rw [blk_cell hb2]; rfl)); clear hr2 hg2 hno2 hb2)
                first | go_end0 | ((try simp only [Exit.inBlock, Exit.then]); refine bodyPost_ret (results_none rfl _ _ _) rfl ?_)
                have he := ev_end HPp.out HG2.out HR2.out HN2.out (blk_set HB2.out 13 (.slice A2 m2 c2)) (grown_set w2 b 13 _)
                exact ⟨rfl, _, _, _, by rw [Hv.out]; exact he.1, HTt.out.trans he.2⟩
              · by_cases h8 : S.st = 1
                · rw [h8] at c1
                  have Hv := Lib.hid (show q = escS S r from by rw [← Hq.out, takN_def, if_neg (by omega), if_neg h3, if_neg h4, if_neg h5, if_neg (by omega), if_pos h8])
                  have eb24 : ((r : Int) == 24) = false := beq_eq_false_iff_ne.2 (by omega)
                  have ed24 : decide ((r : Int) = 24) = false := decide_eq_false (by omega)
                  have en24 : ¬ (r : Int) = 24 := by omega
                  have eb26 : ((r : Int) == 26) = false := beq_eq_false_iff_ne.2 (by omega)
                  have ed26 : decide ((r : Int) = 26) = false := decide_eq_false (by omega)
                  have en26 : ¬ (r : Int) = 26 := by omega
                  have eb127 : ((r : Int) == 127) = false := beq_eq_false_iff_ne.2 (by omega)
                  have ed127 : decide ((r : Int) = 127) = false := decide_eq_false (by omega)
                  have en127 : ¬ (r : Int) = 127 := by omega
                  have eb27 : ((r : Int) == 27) = false := beq_eq_false_iff_ne.2 (by omega)
                  have ed27 : decide ((r : Int) = 27) = false := decide_eq_false (by omega)
                  have en27 : ¬ (r : Int) = 27 := by omega
                  have lt32 : ¬ (r : Int) < 32 := by omega
                  have ld32 : decide ((r : Int) < 32) = false := decide_eq_false (by omega)
                  have le128 : ¬ (128 : Int) ≤ r := by omega
                  have lf128 : decide ((128 : Int) ≤ r) = false := decide_eq_false (by omega)
                  have w8a : (r : Int) % 256 = (r : Int) := by omega
                  have w8b : IntKind.u8.wrap (r : Int) = (r : Int) := wraps_u8 _ (by omega) (by omega)
                  clear HE0 HE1 HC hok hst h1 h2 h3 h4 h5 h6 h8 e3a e3b e3c
                  go_enter Try.func50, Try.ntmps50
                  go_wp2_with (go_at_call 65; refine (HS.out (by omega)).mono ?_; rintro e w1 ⟨rfl, vp1, vt1, vo1, hp, ht⟩; (have HPp := Lib.hid hp); (have HTt := Lib.hid ht); clear hp ht)
                  first | go_end0 | ((try simp only [Exit.inBlock, Exit.then]); refine bodyPost_ret (results_none rfl _ _ _) rfl ?_)
                  exact ⟨rfl, _, _, _, by rw [Hv.out]; exact HPp.out, HTt.out⟩
                · have Hv := Lib.hid (show q = conS S r from by rw [← Hq.out, takN_def, if_neg (by omega), if_neg h3, if_neg h4, if_neg h5, if_neg (by omega), if_neg h8])
                  have eb24 : ((r : Int) == 24) = false := beq_eq_false_iff_ne.2 (by omega)
                  have ed24 : decide ((r : Int) = 24) = false := decide_eq_false (by omega)
                  have en24 : ¬ (r : Int) = 24 := by omega
                  have eb26 : ((r : Int) == 26) = false := beq_eq_false_iff_ne.2 (by omega)
                  have ed26 : decide ((r : Int) = 26) = false := decide_eq_false (by omega)
                  have en26 : ¬ (r : Int) = 26 := by omega
                  have eb127 : ((r : Int) == 127) = false := beq_eq_false_iff_ne.2 (by omega)
                  have ed127 : decide ((r : Int) = 127) = false := decide_eq_false (by omega)
                  have en127 : ¬ (r : Int) = 127 := by omega
                  have eb27 : ((r : Int) == 27) = false := beq_eq_false_iff_ne.2 (by omega)
                  have ed27 : decide ((r : Int) = 27) = false := decide_eq_false (by omega)
                  have en27 : ¬ (r : Int) = 27 := by omega
                  have lt32 : ¬ (r : Int) < 32 := by omega
                  have ld32 : decide ((r : Int) < 32) = false := decide_eq_false (by omega)
                  have ebs0 : ((S.st : Int) == 0) = false := beq_eq_false_iff_ne.2 (by omega)
                  have eds0 : decide ((S.st : Int) = 0) = false := decide_eq_false (by omega)
                  have ens0 : ¬ (S.st : Int) = 0 := by omega
                  have le128 : ¬ (128 : Int) ≤ r := by omega
                  have lf128 : decide ((128 : Int) ≤ r) = false := decide_eq_false (by omega)
                  have w8a : (r : Int) % 256 = (r : Int) := by omega
                  have w8b : IntKind.u8.wrap (r : Int) = (r : Int) := wraps_u8 _ (by omega) (by omega)
                  have ebs1 : ((S.st : Int) == 1) = false := beq_eq_false_iff_ne.2 (by omega)
                  have eds1 : decide ((S.st : Int) = 1) = false := decide_eq_false (by omega)
                  have ens1 : ¬ (S.st : Int) = 1 := by omega
                  clear HE0 HE1 HS hok hst h1 h2 h3 h4 h5 h6 h8
                  go_enter Try.func50, Try.ntmps50
                  go_wp2_with (go_at_call 66; refine (HC.out (by omega)).mono ?_; rintro e w1 ⟨rfl, vp1, vt1, vo1, hp, ht⟩; (have HPp := Lib.hid hp); (have HTt := Lib.hid ht); clear hp ht)
                  first | go_end0 | ((try simp only [Exit.inBlock, Exit.then]); refine bodyPost_ret (results_none rfl _ _ _) rfl ?_)
                  exact ⟨rfl, _, _, _, by rw [Hv.out]; exact HPp.out, HTt.out⟩
end Go.Proofs.Ytbcononfgpfdbaa.An
