/-
  ansi: escaped, digit, next, control.
-/
import Derived.Test.YtbcononfgpfdbaaUc
namespace Go.Proofs.Ytbcononfgpfdbaa.An
open Go.RowKit Go.Proofs.Ytbcononfgpfdbaa.L Go.Proofs.Ytbcononfgpfdbaa.N Go.Proofs.YtbcononfgpfdbaaW.PrintWords

/-- what a call of the parser's gives -/
def PoC (n0 b : Nat) (vp vt vo : Value) (evs : List Ev) (r : St × List Ev) (w : World) (e : Ending) (w' : World) : Prop := e = .returned (.tuple #[]) ∧ ∃ vp' vt' vo', PM n0 b vp' vt' vo' r.1 (evs ++ r.2) w' ∧ TR b vp vt vo vp' vt' vo' w w'
theorem escS_def (S : St) (c : Nat) : escS S c = if c < 48 then (inS S c, []) else if c = 91 ∧ escO S then (enS 2, []) else if c = 93 ∧ escO S then (enS 3, []) else (enS 0, endE S 3 c .empty) := rfl
set_option maxRecDepth 100000 in
set_option maxHeartbeats 6400000 in
theorem escaped_any (n0 b c : Nat) (vp vt vo : Value) (S : St) (evs : List Ev) (w : World) (h : PM n0 b vp vt vo S evs w) (hl : evs.length ≤ 1000000000) (hc : c < 256) :
    Calls Try.prog 65 #[.pointer (some ⟨b, 0, none⟩), .int .u8 (c : Int)] w (PoC n0 b vp vt vo evs (escS S c) w) := by
  have HI := Lib.hid (inter_any n0 b c vp vt vo S evs w h)
  have HE2 := Lib.hid (enter_any n0 b 2 (by decide) _ vp vt vo S evs w h)
  have HE3 := Lib.hid (enter_any n0 b 3 (by decide) _ vp vt vo S evs w h)
  have HN := Lib.hid (end_any n0 b 3 c _ vp vt vo S evs w h hl)
  have c5 : w.cell? ⟨b, 5, none⟩ = some (.int .u8 (S.it : Int)) := by rw [blk_cell h.blk]; rfl
  have c10 : w.cell? ⟨b, 10, none⟩ = some (.bool S.gone) := by rw [blk_cell h.blk]; rfl
  by_cases h1 : c < 48
  · have Hr := Lib.hid (show escS S c = (inS S c, []) from by rw [escS_def, if_pos h1])
    have lt48 : (c : Int) < 48 := by omega
    have ld48 : decide ((c : Int) < 48) = true := decide_eq_true (by omega)
    clear HE2 HE3 HN h hl hc h1
    obtain ⟨r, hr⟩ : ∃ r, escS S c = r := ⟨_, rfl⟩
    rw [hr] at Hr ⊢
    clear hr
    go_enter Try.func65, Try.ntmps65
    go_wp2_with (go_at_call 70; refine HI.out.mono ?_; rintro e w1 ⟨rfl, hp, ht⟩; (have HPp := Lib.hid hp); (have HTt := Lib.hid ht); clear hp ht)
    first | go_end0 | ((try simp only [Exit.inBlock, Exit.then]); refine bodyPost_ret (results_none rfl _ _ _) rfl ?_)
    exact ⟨rfl, _, _, _, by rw [Hr.out, List.append_nil]; exact HPp.out, HTt.out⟩
  · by_cases h91 : c = 91
    · by_cases hit : S.it = 0
      · cases hgone : S.gone with
        | true =>
          rw [hit] at c5
          rw [hgone] at c10
          have Hr := Lib.hid (show escS S c = (enS 0, endE S 3 c .empty) from by rw [escS_def, if_neg h1, if_neg (fun h => by have := h.2.2; rw [hgone] at this; cases this), if_neg (fun h => by have := h.2.2; rw [hgone] at this; cases this)])
          have lt48 : ¬ (c : Int) < 48 := by omega
          have ld48 : decide ((c : Int) < 48) = false := decide_eq_false (by omega)
          have eb91 : ((c : Int) == 91) = true := beq_iff_eq.2 (by omega)
          have ed91 : decide ((c : Int) = 91) = true := decide_eq_true (by omega)
          have eb93 : ((c : Int) == 93) = false := beq_eq_false_iff_ne.2 (by omega)
          have ed93 : decide ((c : Int) = 93) = false := decide_eq_false (by omega)
          have en93 : ¬ (c : Int) = 93 := by omega
          clear HI HE2 HE3 h hl hc h1 hit hgone h91
          obtain ⟨r, hr⟩ : ∃ r, escS S c = r := ⟨_, rfl⟩
          rw [hr] at Hr ⊢
          clear hr
          go_enter Try.func65, Try.ntmps65
          go_wp2_with (go_at_call 71; refine HN.out.mono ?_; rintro e w1 ⟨rfl, vo1, hp, ht⟩; (have HPp := Lib.hid hp); (have HTt := Lib.hid ht); clear hp ht)
          first | go_end0 | ((try simp only [Exit.inBlock, Exit.then]); refine bodyPost_ret (results_none rfl _ _ _) rfl ?_)
          exact ⟨rfl, _, _, _, by rw [Hr.out]; exact HPp.out, HTt.out⟩
        | false =>
          rw [hit] at c5
          rw [hgone] at c10
          have Hr := Lib.hid (show escS S c = (enS 2, []) from by rw [escS_def, if_neg h1, if_pos ⟨h91, hit, hgone⟩])
          have lt48 : ¬ (c : Int) < 48 := by omega
          have ld48 : decide ((c : Int) < 48) = false := decide_eq_false (by omega)
          have eb91 : ((c : Int) == 91) = true := beq_iff_eq.2 (by omega)
          have ed91 : decide ((c : Int) = 91) = true := decide_eq_true (by omega)
          have eb93 : ((c : Int) == 93) = false := beq_eq_false_iff_ne.2 (by omega)
          have ed93 : decide ((c : Int) = 93) = false := decide_eq_false (by omega)
          have en93 : ¬ (c : Int) = 93 := by omega
          clear HI HE3 HN h hl hc h1 hit hgone h91
          obtain ⟨r, hr⟩ : ∃ r, escS S c = r := ⟨_, rfl⟩
          rw [hr] at Hr ⊢
          clear hr
          go_enter Try.func65, Try.ntmps65
          go_wp2_with (go_at_call 63; refine HE2.out.mono ?_; rintro e w1 ⟨rfl, hp, ht⟩; (have HPp := Lib.hid hp); (have HTt := Lib.hid ht); clear hp ht)
          first | go_end0 | ((try simp only [Exit.inBlock, Exit.then]); refine bodyPost_ret (results_none rfl _ _ _) rfl ?_)
          exact ⟨rfl, _, _, _, by rw [Hr.out, List.append_nil]; exact HPp.out, HTt.out⟩
      · have ebit : ((S.it : Int) == 0) = false := beq_eq_false_iff_ne.2 (by omega)
        have edit : decide ((S.it : Int) = 0) = false := decide_eq_false (by omega)
        have enit : ¬ (S.it : Int) = 0 := by omega
        have Hr := Lib.hid (show escS S c = (enS 0, endE S 3 c .empty) from by rw [escS_def, if_neg h1, if_neg (fun h => hit h.2.1), if_neg (fun h => hit h.2.1)])
        have lt48 : ¬ (c : Int) < 48 := by omega
        have ld48 : decide ((c : Int) < 48) = false := decide_eq_false (by omega)
        have eb91 : ((c : Int) == 91) = true := beq_iff_eq.2 (by omega)
        have ed91 : decide ((c : Int) = 91) = true := decide_eq_true (by omega)
        have eb93 : ((c : Int) == 93) = false := beq_eq_false_iff_ne.2 (by omega)
        have ed93 : decide ((c : Int) = 93) = false := decide_eq_false (by omega)
        have en93 : ¬ (c : Int) = 93 := by omega
        clear HI HE2 HE3 h hl hc h1 hit h91
        obtain ⟨r, hr⟩ : ∃ r, escS S c = r := ⟨_, rfl⟩
        rw [hr] at Hr ⊢
        clear hr
        go_enter Try.func65, Try.ntmps65
        go_wp2_with (go_at_call 71; refine HN.out.mono ?_; rintro e w1 ⟨rfl, vo1, hp, ht⟩; (have HPp := Lib.hid hp); (have HTt := Lib.hid ht); clear hp ht)
        first | go_end0 | ((try simp only [Exit.inBlock, Exit.then]); refine bodyPost_ret (results_none rfl _ _ _) rfl ?_)
        exact ⟨rfl, _, _, _, by rw [Hr.out]; exact HPp.out, HTt.out⟩
    · by_cases h93 : c = 93
      · by_cases hit : S.it = 0
        · cases hgone : S.gone with
          | true =>
            rw [hit] at c5
            rw [hgone] at c10
            have Hr := Lib.hid (show escS S c = (enS 0, endE S 3 c .empty) from by rw [escS_def, if_neg h1, if_neg (fun h => by have := h.2.2; rw [hgone] at this; cases this), if_neg (fun h => by have := h.2.2; rw [hgone] at this; cases this)])
            have lt48 : ¬ (c : Int) < 48 := by omega
            have ld48 : decide ((c : Int) < 48) = false := decide_eq_false (by omega)
            have eb91 : ((c : Int) == 91) = false := beq_eq_false_iff_ne.2 (by omega)
            have ed91 : decide ((c : Int) = 91) = false := decide_eq_false (by omega)
            have en91 : ¬ (c : Int) = 91 := by omega
            have eb93 : ((c : Int) == 93) = true := beq_iff_eq.2 (by omega)
            have ed93 : decide ((c : Int) = 93) = true := decide_eq_true (by omega)
            clear HI HE2 HE3 h hl hc h1 hit hgone h91 h93
            obtain ⟨r, hr⟩ : ∃ r, escS S c = r := ⟨_, rfl⟩
            rw [hr] at Hr ⊢
            clear hr
            go_enter Try.func65, Try.ntmps65
            go_wp2_with (go_at_call 71; refine HN.out.mono ?_; rintro e w1 ⟨rfl, vo1, hp, ht⟩; (have HPp := Lib.hid hp); (have HTt := Lib.hid ht); clear hp ht)
            first | go_end0 | ((try simp only [Exit.inBlock, Exit.then]); refine bodyPost_ret (results_none rfl _ _ _) rfl ?_)
            exact ⟨rfl, _, _, _, by rw [Hr.out]; exact HPp.out, HTt.out⟩
          | false =>
            rw [hit] at c5
            rw [hgone] at c10
            have Hr := Lib.hid (show escS S c = (enS 3, []) from by rw [escS_def, if_neg h1, if_neg (fun h => h91 h.1), if_pos ⟨h93, hit, hgone⟩])
            have lt48 : ¬ (c : Int) < 48 := by omega
            have ld48 : decide ((c : Int) < 48) = false := decide_eq_false (by omega)
            have eb91 : ((c : Int) == 91) = false := beq_eq_false_iff_ne.2 (by omega)
            have ed91 : decide ((c : Int) = 91) = false := decide_eq_false (by omega)
            have en91 : ¬ (c : Int) = 91 := by omega
            have eb93 : ((c : Int) == 93) = true := beq_iff_eq.2 (by omega)
            have ed93 : decide ((c : Int) = 93) = true := decide_eq_true (by omega)
            clear HI HE2 HN h hl hc h1 hit hgone h91 h93
            obtain ⟨r, hr⟩ : ∃ r, escS S c = r := ⟨_, rfl⟩
            rw [hr] at Hr ⊢
            clear hr
            go_enter Try.func65, Try.ntmps65
            go_wp2_with (go_at_call 63; refine HE3.out.mono ?_; rintro e w1 ⟨rfl, hp, ht⟩; (have HPp := Lib.hid hp); (have HTt := Lib.hid ht); clear hp ht)
            first | go_end0 | ((try simp only [Exit.inBlock, Exit.then]); refine bodyPost_ret (results_none rfl _ _ _) rfl ?_)
            exact ⟨rfl, _, _, _, by rw [Hr.out, List.append_nil]; exact HPp.out, HTt.out⟩
        · have ebit : ((S.it : Int) == 0) = false := beq_eq_false_iff_ne.2 (by omega)
          have edit : decide ((S.it : Int) = 0) = false := decide_eq_false (by omega)
          have enit : ¬ (S.it : Int) = 0 := by omega
          have Hr := Lib.hid (show escS S c = (enS 0, endE S 3 c .empty) from by rw [escS_def, if_neg h1, if_neg (fun h => hit h.2.1), if_neg (fun h => hit h.2.1)])
          have lt48 : ¬ (c : Int) < 48 := by omega
          have ld48 : decide ((c : Int) < 48) = false := decide_eq_false (by omega)
          have eb91 : ((c : Int) == 91) = false := beq_eq_false_iff_ne.2 (by omega)
          have ed91 : decide ((c : Int) = 91) = false := decide_eq_false (by omega)
          have en91 : ¬ (c : Int) = 91 := by omega
          have eb93 : ((c : Int) == 93) = true := beq_iff_eq.2 (by omega)
          have ed93 : decide ((c : Int) = 93) = true := decide_eq_true (by omega)
          clear HI HE2 HE3 h hl hc h1 hit h91 h93
          obtain ⟨r, hr⟩ : ∃ r, escS S c = r := ⟨_, rfl⟩
          rw [hr] at Hr ⊢
          clear hr
          go_enter Try.func65, Try.ntmps65
          go_wp2_with (go_at_call 71; refine HN.out.mono ?_; rintro e w1 ⟨rfl, vo1, hp, ht⟩; (have HPp := Lib.hid hp); (have HTt := Lib.hid ht); clear hp ht)
          first | go_end0 | ((try simp only [Exit.inBlock, Exit.then]); refine bodyPost_ret (results_none rfl _ _ _) rfl ?_)
          exact ⟨rfl, _, _, _, by rw [Hr.out]; exact HPp.out, HTt.out⟩
      · have Hr := Lib.hid (show escS S c = (enS 0, endE S 3 c .empty) from by rw [escS_def, if_neg h1, if_neg (fun h => h91 h.1), if_neg (fun h => h93 h.1)])
        have lt48 : ¬ (c : Int) < 48 := by omega
        have ld48 : decide ((c : Int) < 48) = false := decide_eq_false (by omega)
        have eb91 : ((c : Int) == 91) = false := beq_eq_false_iff_ne.2 (by omega)
        have ed91 : decide ((c : Int) = 91) = false := decide_eq_false (by omega)
        have en91 : ¬ (c : Int) = 91 := by omega
        have eb93 : ((c : Int) == 93) = false := beq_eq_false_iff_ne.2 (by omega)
        have ed93 : decide ((c : Int) = 93) = false := decide_eq_false (by omega)
        have en93 : ¬ (c : Int) = 93 := by omega
        clear HI HE2 HE3 h hl hc h1 h91 h93
        obtain ⟨r, hr⟩ : ∃ r, escS S c = r := ⟨_, rfl⟩
        rw [hr] at Hr ⊢
        clear hr
        go_enter Try.func65, Try.ntmps65
        go_wp2_with (go_at_call 71; refine HN.out.mono ?_; rintro e w1 ⟨rfl, vo1, hp, ht⟩; (have HPp := Lib.hid hp); (have HTt := Lib.hid ht); clear hp ht)
        first | go_end0 | ((try simp only [Exit.inBlock, Exit.then]); refine bodyPost_ret (results_none rfl _ _ _) rfl ?_)
        exact ⟨rfl, _, _, _, by rw [Hr.out]; exact HPp.out, HTt.out⟩
end Go.Proofs.Ytbcononfgpfdbaa.An
