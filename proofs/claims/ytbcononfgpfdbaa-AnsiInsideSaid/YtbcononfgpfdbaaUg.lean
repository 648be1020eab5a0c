/-
  ansi: control.
-/
import Derived.Test.YtbcononfgpfdbaaUf
namespace Go.Proofs.Ytbcononfgpfdbaa.An
open Go.RowKit Go.Proofs.Ytbcononfgpfdbaa.L Go.Proofs.Ytbcononfgpfdbaa.N Go.Proofs.YtbcononfgpfdbaaW.PrintWords

abbrev cm (S : St) : St := { S with came := true }
theorem conS_def (S : St) (c : Nat) : conS S c = if c < 48 then (inS (cm S) c, []) else if 64 ≤ c then (enS 0, endE (cm S) 4 c .empty) else if c ≤ 57 ∧ S.it = 0 then (digS (cm S) c, []) else if c = 59 ∧ S.it = 0 then (nxtS (cm S), []) else if 60 ≤ c ∧ S.came = false then ({ cm S with pr := c }, []) else ({ cm S with gone := true }, []) := rfl
set_option maxRecDepth 100000 in
set_option maxHeartbeats 6400000 in
theorem control_any (n0 b c : Nat) (vp vt vo : Value) (S : St) (evs : List Ev) (w : World) (h : PM n0 b vp vt vo S evs w) (hl : evs.length ≤ 1000000000) (hc : c < 256) :
    Calls Try.prog 66 #[.pointer (some ⟨b, 0, none⟩), .int .u8 (c : Int)] w (PoC n0 b vp vt vo evs (conS S c) w) := by
  have HP := Lib.hid h
  have HL := Lib.hid hl
  have fz := blk_frozen h.blk
  have c9 : w.cell? ⟨b, 9, none⟩ = some (.bool S.came) := by rw [blk_cell h.blk]; rfl
  obtain ⟨r, hr⟩ : ∃ r, conS S c = r := ⟨_, rfl⟩
  have Hr := Lib.hid hr
  have HC := Lib.hid hc
  rw [hr]
  clear hr h hl hc
  go_enter Try.func66, Try.ntmps66
  go_upto_region 3 with (fail)
  refine wp_at fun W hW => ?_
  have hb := blk_set HP.out.blk 9 (.bool true)
  have hg := grown_set w b 9 (.bool true)
  rw [← hW] at hb hg
  have hQ : PM n0 b vp vt vo (cm S) evs W := HP.out.wr hb hg rfl rfl ⟨HP.out.oks.val, HP.out.oks.len, HP.out.oks.txt, HP.out.oks.st⟩
  have HQ := Lib.hid hQ
  have HT := Lib.hid (show TR b vp vt vo vp vt vo w W from TR.obj hg (NO.self _ _) (NO.self _ _) (NO.self _ _))
  clear hW hb hg fz c9
  have HI := Lib.hid (inter_any n0 b c vp vt vo (cm S) evs W hQ)
  have HN := Lib.hid (end_any n0 b 4 c _ vp vt vo (cm S) evs W hQ HL.out)
  have HX := Lib.hid (next_any n0 b vp vt vo (cm S) evs W hQ)
  have HD := Lib.hid (fun h => digit_any n0 b c vp vt vo (cm S) evs W hQ h)
  have fz := blk_frozen hQ.blk
  have c4 : W.cell? ⟨b, 4, none⟩ = some (.int .u8 (S.pr : Int)) := by rw [blk_cell hQ.blk]; rfl
  have c5 : W.cell? ⟨b, 5, none⟩ = some (.int .u8 (S.it : Int)) := by rw [blk_cell hQ.blk]; rfl
  have c10 : W.cell? ⟨b, 10, none⟩ = some (.bool S.gone) := by rw [blk_cell hQ.blk]; rfl
  have hc := HC.out
  clear hQ
  by_cases h1 : c < 48
  · have Hv := Lib.hid (show r = (inS (cm S) c, []) from by rw [← Hr.out, conS_def, if_pos h1])
    have lt48 : (c : Int) < 48 := by omega
    have ld48 : decide ((c : Int) < 48) = true := decide_eq_true (by omega)
    clear HN HX HD hc h1
    go_wp2_with (go_at_call 70; refine HI.out.mono ?_; rintro e w1 ⟨rfl, hp, ht⟩; (have HPp := Lib.hid hp); (have HTt := Lib.hid ht); clear hp ht)
    first | go_end0 | ((try simp only [Exit.inBlock, Exit.then]); refine bodyPost_ret (results_none rfl _ _ _) rfl ?_)
    exact ⟨rfl, _, _, _, by rw [Hv.out, List.append_nil]; exact HPp.out, HT.out.trans HTt.out⟩
  · by_cases h2 : 64 ≤ c
    · have Hv := Lib.hid (show r = (enS 0, endE (cm S) 4 c .empty) from by rw [← Hr.out, conS_def, if_neg h1, if_pos h2])
      have lt48 : ¬ (c : Int) < 48 := by omega
      have ld48 : decide ((c : Int) < 48) = false := decide_eq_false (by omega)
      have le64 : (64 : Int) ≤ c := by omega
      have lf64 : decide ((64 : Int) ≤ c) = true := decide_eq_true (by omega)
      clear HI HX HD hc h1 h2
      go_wp2_with (go_at_call 71; refine HN.out.mono ?_; rintro e w1 ⟨rfl, vo1, hp, ht⟩; (have HPp := Lib.hid hp); (have HTt := Lib.hid ht); clear hp ht)
      first | go_end0 | ((try simp only [Exit.inBlock, Exit.then]); refine bodyPost_ret (results_none rfl _ _ _) rfl ?_)
      exact ⟨rfl, _, _, _, by rw [Hv.out]; exact HPp.out, HT.out.trans HTt.out⟩
    · by_cases h3 : c ≤ 57
      · by_cases hit : S.it = 0
        · rw [hit] at c5
          have Hv := Lib.hid (show r = (digS (cm S) c, []) from by rw [← Hr.out, conS_def, if_neg h1, if_neg h2, if_pos ⟨h3, hit⟩])
          have lt48 : ¬ (c : Int) < 48 := by omega
          have ld48 : decide ((c : Int) < 48) = false := decide_eq_false (by omega)
          have le64 : ¬ (64 : Int) ≤ c := by omega
          have lf64 : decide ((64 : Int) ≤ c) = false := decide_eq_false (by omega)
          have le57 : (c : Int) ≤ 57 := by omega
          have lf57 : decide ((c : Int) ≤ 57) = true := decide_eq_true (by omega)
          have HDd := Lib.hid (HD.out (by omega))
          clear HI HN HX HD hc h1 h2 h3 hit
          go_wp2_with (go_at_call 72; refine HDd.out.mono ?_; rintro e w1 ⟨rfl, vp1, vt1, vo1, hp, ht⟩; (have HPp := Lib.hid hp); (have HTt := Lib.hid ht); clear hp ht)
          first | go_end0 | ((try simp only [Exit.inBlock, Exit.then]); refine bodyPost_ret (results_none rfl _ _ _) rfl ?_)
          exact ⟨rfl, _, _, _, by rw [Hv.out]; exact HPp.out, HT.out.trans HTt.out⟩
        · have Hv := Lib.hid (show r = ({ cm S with gone := true }, []) from by rw [← Hr.out, conS_def, if_neg h1, if_neg h2, if_neg (fun h => hit h.2), if_neg (fun h => hit h.2), if_neg (fun h => by omega)])
          have lt48 : ¬ (c : Int) < 48 := by omega
          have ld48 : decide ((c : Int) < 48) = false := decide_eq_false (by omega)
          have le64 : ¬ (64 : Int) ≤ c := by omega
          have lf64 : decide ((64 : Int) ≤ c) = false := decide_eq_false (by omega)
          have le57 : (c : Int) ≤ 57 := by omega
          have lf57 : decide ((c : Int) ≤ 57) = true := decide_eq_true (by omega)
          have ebit : ((S.it : Int) == 0) = false := beq_eq_false_iff_ne.2 (by omega)
          have edit : decide ((S.it : Int) = 0) = false := decide_eq_false (by omega)
          have enit : ¬ (S.it : Int) = 0 := by omega
          have eb59 : ((c : Int) == 59) = false := beq_eq_false_iff_ne.2 (by omega)
          have ed59 : decide ((c : Int) = 59) = false := decide_eq_false (by omega)
          have en59 : ¬ (c : Int) = 59 := by omega
          have le60 : ¬ (60 : Int) ≤ c := by omega
          have lf60 : decide ((60 : Int) ≤ c) = false := decide_eq_false (by omega)
          clear HI HN HX HD hc h1 h2 h3 hit
          go_wp2_with fail
          first | go_end0 | ((try simp only [Exit.inBlock, Exit.then]); refine bodyPost_ret (results_none rfl _ _ _) rfl ?_)
          have hb := blk_set HQ.out.blk 10 (.bool true)
          have hg := grown_set W b 10 (.bool true)
          exact ⟨rfl, _, _, _, by rw [Hv.out, List.append_nil]; exact HQ.out.wr hb hg rfl rfl ⟨HQ.out.oks.val, HQ.out.oks.len, HQ.out.oks.txt, HQ.out.oks.st⟩, HT.out.trans (TR.obj hg (NO.self _ _) (NO.self _ _) (NO.self _ _))⟩
      · by_cases h4 : c = 59
        · by_cases hit : S.it = 0
          · rw [hit] at c5
            have Hv := Lib.hid (show r = (nxtS (cm S), []) from by rw [← Hr.out, conS_def, if_neg h1, if_neg h2, if_neg (fun h => h3 h.1), if_pos ⟨h4, hit⟩])
            have lt48 : ¬ (c : Int) < 48 := by omega
            have ld48 : decide ((c : Int) < 48) = false := decide_eq_false (by omega)
            have le64 : ¬ (64 : Int) ≤ c := by omega
            have lf64 : decide ((64 : Int) ≤ c) = false := decide_eq_false (by omega)
            have le57 : ¬ (c : Int) ≤ 57 := by omega
            have lf57 : decide ((c : Int) ≤ 57) = false := decide_eq_false (by omega)
            have eb59 : ((c : Int) == 59) = true := beq_iff_eq.2 (by omega)
            have ed59 : decide ((c : Int) = 59) = true := decide_eq_true (by omega)
            clear HI HN HD hc h1 h2 h3 h4 hit
            go_wp2_with (go_at_call 73; refine HX.out.mono ?_; rintro e w1 ⟨rfl, vp1, vt1, vo1, hp, ht⟩; (have HPp := Lib.hid hp); (have HTt := Lib.hid ht); clear hp ht)
            first | go_end0 | ((try simp only [Exit.inBlock, Exit.then]); refine bodyPost_ret (results_none rfl _ _ _) rfl ?_)
            exact ⟨rfl, _, _, _, by rw [Hv.out]; exact HPp.out, HT.out.trans HTt.out⟩
          · have Hv := Lib.hid (show r = ({ cm S with gone := true }, []) from by rw [← Hr.out, conS_def, if_neg h1, if_neg h2, if_neg (fun h => hit h.2), if_neg (fun h => hit h.2), if_neg (fun h => by omega)])
            have lt48 : ¬ (c : Int) < 48 := by omega
            have ld48 : decide ((c : Int) < 48) = false := decide_eq_false (by omega)
            have le64 : ¬ (64 : Int) ≤ c := by omega
            have lf64 : decide ((64 : Int) ≤ c) = false := decide_eq_false (by omega)
            have le57 : ¬ (c : Int) ≤ 57 := by omega
            have lf57 : decide ((c : Int) ≤ 57) = false := decide_eq_false (by omega)
            have ebit : ((S.it : Int) == 0) = false := beq_eq_false_iff_ne.2 (by omega)
            have edit : decide ((S.it : Int) = 0) = false := decide_eq_false (by omega)
            have enit : ¬ (S.it : Int) = 0 := by omega
            have eb59 : ((c : Int) == 59) = true := beq_iff_eq.2 (by omega)
            have ed59 : decide ((c : Int) = 59) = true := decide_eq_true (by omega)
            have le60 : ¬ (60 : Int) ≤ c := by omega
            have lf60 : decide ((60 : Int) ≤ c) = false := decide_eq_false (by omega)
            clear HI HN HX HD hc h1 h2 h3 h4 hit
            go_wp2_with fail
            first | go_end0 | ((try simp only [Exit.inBlock, Exit.then]); refine bodyPost_ret (results_none rfl _ _ _) rfl ?_)
            have hb := blk_set HQ.out.blk 10 (.bool true)
            have hg := grown_set W b 10 (.bool true)
            exact ⟨rfl, _, _, _, by rw [Hv.out, List.append_nil]; exact HQ.out.wr hb hg rfl rfl ⟨HQ.out.oks.val, HQ.out.oks.len, HQ.out.oks.txt, HQ.out.oks.st⟩, HT.out.trans (TR.obj hg (NO.self _ _) (NO.self _ _) (NO.self _ _))⟩
        · by_cases h5 : 60 ≤ c
          · cases hcame : S.came with
            | false =>
              have Hv := Lib.hid (show r = ({ cm S with pr := c }, []) from by rw [← Hr.out, conS_def, if_neg h1, if_neg h2, if_neg (fun h => h3 h.1), if_neg (fun h => h4 h.1), if_pos ⟨h5, hcame⟩])
              have lt48 : ¬ (c : Int) < 48 := by omega
              have ld48 : decide ((c : Int) < 48) = false := decide_eq_false (by omega)
              have le64 : ¬ (64 : Int) ≤ c := by omega
              have lf64 : decide ((64 : Int) ≤ c) = false := decide_eq_false (by omega)
              have le57 : ¬ (c : Int) ≤ 57 := by omega
              have lf57 : decide ((c : Int) ≤ 57) = false := decide_eq_false (by omega)
              have eb59 : ((c : Int) == 59) = false := beq_eq_false_iff_ne.2 (by omega)
              have ed59 : decide ((c : Int) = 59) = false := decide_eq_false (by omega)
              have en59 : ¬ (c : Int) = 59 := by omega
              have le60 : (60 : Int) ≤ c := by omega
              have lf60 : decide ((60 : Int) ≤ c) = true := decide_eq_true (by omega)
              clear HI HN HX HD hc h1 h2 h3 h4 h5 hcame
              go_wp2_with fail
              first | go_end0 | ((try simp only [Exit.inBlock, Exit.then]); refine bodyPost_ret (results_none rfl _ _ _) rfl ?_)
              have hb := blk_set HQ.out.blk 4 (.int .u8 (c : Int))
              have hg := grown_set W b 4 (.int .u8 (c : Int))
              exact ⟨rfl, _, _, _, by rw [Hv.out, List.append_nil]; exact HQ.out.wr hb hg rfl rfl ⟨HQ.out.oks.val, HQ.out.oks.len, HQ.out.oks.txt, HQ.out.oks.st⟩, HT.out.trans (TR.obj hg (NO.self _ _) (NO.self _ _) (NO.self _ _))⟩
            | true =>
              have Hv := Lib.hid (show r = ({ cm S with gone := true }, []) from by rw [← Hr.out, conS_def, if_neg h1, if_neg h2, if_neg (fun h => h3 h.1), if_neg (fun h => h4 h.1), if_neg (fun h => by rw [hcame] at h; exact absurd h.2 (by decide))])
              have lt48 : ¬ (c : Int) < 48 := by omega
              have ld48 : decide ((c : Int) < 48) = false := decide_eq_false (by omega)
              have le64 : ¬ (64 : Int) ≤ c := by omega
              have lf64 : decide ((64 : Int) ≤ c) = false := decide_eq_false (by omega)
              have le57 : ¬ (c : Int) ≤ 57 := by omega
              have lf57 : decide ((c : Int) ≤ 57) = false := decide_eq_false (by omega)
              have eb59 : ((c : Int) == 59) = false := beq_eq_false_iff_ne.2 (by omega)
              have ed59 : decide ((c : Int) = 59) = false := decide_eq_false (by omega)
              have en59 : ¬ (c : Int) = 59 := by omega
              have le60 : (60 : Int) ≤ c := by omega
              have lf60 : decide ((60 : Int) ≤ c) = true := decide_eq_true (by omega)
              clear HI HN HX HD hc h1 h2 h3 h4 h5 hcame
              go_wp2_with fail
              first | go_end0 | ((try simp only [Exit.inBlock, Exit.then]); refine bodyPost_ret (results_none rfl _ _ _) rfl ?_)
              have hb := blk_set HQ.out.blk 10 (.bool true)
              have hg := grown_set W b 10 (.bool true)
              exact ⟨rfl, _, _, _, by rw [Hv.out, List.append_nil]; exact HQ.out.wr hb hg rfl rfl ⟨HQ.out.oks.val, HQ.out.oks.len, HQ.out.oks.txt, HQ.out.oks.st⟩, HT.out.trans (TR.obj hg (NO.self _ _) (NO.self _ _) (NO.self _ _))⟩
          · have Hv := Lib.hid (show r = ({ cm S with gone := true }, []) from by rw [← Hr.out, conS_def, if_neg h1, if_neg h2, if_neg (fun h => h3 h.1), if_neg (fun h => h4 h.1), if_neg (fun h => h5 h.1)])
            have lt48 : ¬ (c : Int) < 48 := by omega
            have ld48 : decide ((c : Int) < 48) = false := decide_eq_false (by omega)
            have le64 : ¬ (64 : Int) ≤ c := by omega
            have lf64 : decide ((64 : Int) ≤ c) = false := decide_eq_false (by omega)
            have le57 : ¬ (c : Int) ≤ 57 := by omega
            have lf57 : decide ((c : Int) ≤ 57) = false := decide_eq_false (by omega)
            have eb59 : ((c : Int) == 59) = false := beq_eq_false_iff_ne.2 (by omega)
            have ed59 : decide ((c : Int) = 59) = false := decide_eq_false (by omega)
            have en59 : ¬ (c : Int) = 59 := by omega
            have le60 : ¬ (60 : Int) ≤ c := by omega
            have lf60 : decide ((60 : Int) ≤ c) = false := decide_eq_false (by omega)
            clear HI HN HX HD hc h1 h2 h3 h4 h5
            go_wp2_with fail
            first | go_end0 | ((try simp only [Exit.inBlock, Exit.then]); refine bodyPost_ret (results_none rfl _ _ _) rfl ?_)
            have hb := blk_set HQ.out.blk 10 (.bool true)
            have hg := grown_set W b 10 (.bool true)
            exact ⟨rfl, _, _, _, by rw [Hv.out, List.append_nil]; exact HQ.out.wr hb hg rfl rfl ⟨HQ.out.oks.val, HQ.out.oks.len, HQ.out.oks.txt, HQ.out.oks.st⟩, HT.out.trans (TR.obj hg (NO.self _ _) (NO.self _ _) (NO.self _ _))⟩
end Go.Proofs.Ytbcononfgpfdbaa.An
