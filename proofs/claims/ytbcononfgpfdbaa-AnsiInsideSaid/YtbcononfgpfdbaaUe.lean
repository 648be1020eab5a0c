/-
  ansi: digit, next.
-/
import Derived.Test.YtbcononfgpfdbaaUd
namespace Go.Proofs.Ytbcononfgpfdbaa.An
open Go.RowKit Go.Proofs.Ytbcononfgpfdbaa.L Go.Proofs.Ytbcononfgpfdbaa.N Go.Proofs.YtbcononfgpfdbaaW.PrintWords

theorem nat_set (l : List Nat) (i x : Nat) : nat (l.set i x) = (nat l).set i (x : Int) := by simp [nat, List.map_set]
set_option maxRecDepth 100000 in
set_option maxHeartbeats 6400000 in
theorem digit_any (n0 b c : Nat) (vp vt vo : Value) (S : St) (evs : List Ev) (w : World) (h : PM n0 b vp vt vo S evs w) (hc : 48 ≤ c ∧ c ≤ 57) :
    Calls Try.prog 72 #[.pointer (some ⟨b, 0, none⟩), .int .u8 (c : Int)] w (PoC n0 b vp vt vo evs (digS S c, []) w) := by
  have HP := Lib.hid h
  obtain ⟨d, hd⟩ : ∃ d, c - 48 = d := ⟨_, rfl⟩
  have HDg := Lib.hid (show digS S c = { S with par := (par0 S.par).set ((par0 S.par).length - 1) (min ((par0 S.par).getD ((par0 S.par).length - 1) 0 * 10 + d) 9999) } from by unfold digS digN; rw [hd])
  have HOk := Lib.hid (OK_dig h.oks c)
  have y1 : (c : Int) - 48 = (d : Int) := by omega
  have y2 : (d : Int) ≤ 9 := by omega
  have y3 : (0 : Int) ≤ (d : Int) := by omega
  clear hd hc
  by_cases hp0 : S.par.length = 0
  · have hpn : S.par = [] := List.eq_nil_of_length_eq_zero hp0
    have hpar := h.par
    rw [hpn] at hpar
    obtain ⟨A0, k0, hv0⟩ := Kd.R_slice hpar
    have HS0 := Lib.hid (show par0 S.par = [0] from by unfold par0; rw [if_pos hp0])
    have hv1 : vp = .slice A0 0 k0 := hv0
    have c7 : w.cell? ⟨b, 7, none⟩ = some (.slice A0 0 k0) := by rw [← hv1, blk_cell h.blk]; rfl
    have hPa0 := (blk_below h.blk ((Below.refl _ _).alloc (Nat.le_refl _) (.cells #[.int .i64 0] tI)))
    have c7a : (w.alloc (.cells #[.int .i64 0] tI)).cell? ⟨b, 7, none⟩ = some (.slice A0 0 k0) := by rw [← hv1, blk_cell hPa0]; rfl
    have fza := blk_frozen hPa0
    clear hpn hpar hv0 hv1 hp0 hPa0
    clear h
    go_enter Try.func72, Try.ntmps72
    go_upto_region 2 with (fail)
    refine wp_at fun W hW => ?_
    obtain ⟨Wa, hWa⟩ : ∃ Wa, Wa = w.alloc (.cells #[.int .i64 0] tI) := ⟨_, rfl⟩
    have hW2 : W = Wa.setCell ⟨b, 7, none⟩ (.slice (some ⟨w.heap.size, 0, none⟩) 1 1) := by rw [hWa]; exact hW
    have ba : Below w.heap.size w Wa := by rw [hWa]; exact (Below.refl _ _).alloc (Nat.le_refl _) _
    have hg : Wa.heap[w.heap.size]? = some (.cells #[.int .i64 0] tI (0, 0)) := by rw [hWa]; exact heap_alloc_new w _
    have hPa := HP.out.below ba
    have hb2 := blk_set hPa.blk 7 (.slice (some ⟨w.heap.size, 0, none⟩) 1 1)
    have gb := grown_set Wa b 7 (.slice (some ⟨w.heap.size, 0, none⟩) 1 1)
    rw [← hW2] at hb2 gb
    have hlt := HP.out.lt
    have hne : w.heap.size ≠ b := by omega
    have hQ1 : PM n0 b (.slice (some ⟨w.heap.size, 0, none⟩) 1 1) vt vo { S with par := par0 S.par } evs W := by
      refine ⟨hb2, ?_, R_obj hPa.txt hPa.blk (by intro q hq; simp [Kd.int, Kd.scalar] at hq; subst hq; decide) gb, ?_, HP.out.ge, ⟨par0_val HP.out.oks.val, (par0_len HP.out.oks.len).2, HP.out.oks.txt, HP.out.oks.st⟩⟩
      · rw [show nat ({ S with par := par0 S.par } : St).par = [(0 : Int)] from by rw [HS0.out]; rfl]
        exact R_of_blk (k := .i64) (l := [(0 : Int)]) (by rw [gb.block _ (blk_lt hg) (fun e => hne (by injection e))]; exact hg) (by have := HP.out.ge; omega) (by decide)
      · have h1 := Kd.R_below (Kd.R_mono (ok' := fun k => some k ≠ some w.heap.size) (Kd.R_bound HP.out.out) (fun k hk e => by injection e with e; have := hk.2.2.1; omega)) ba
        exact Kd.R_mono (Kd.R_grown (Kd.R_types h1 hPa.blk (by intro q hq; simp [kE, Kd.pair, Kd.slice, Kd.string, Kd.int, Kd.scalar] at hq; rcases hq with rfl | rfl <;> decide)) gb (fun k hk he => hk.2 (by injection he))) (fun k hk => hk.1)
    have hT1 : TR b vp vt vo (.slice (some ⟨w.heap.size, 0, none⟩) 1 1) vt vo w W :=
      ⟨gb.os.trans ba.os, gb.tape.trans ba.tape, gb.output.trans ba.output, Nat.le_trans ba.size gb.size, fun k hk h1 _ _ _ => (gb.block k (Nat.lt_of_lt_of_le hk ba.size) (fun e => h1 (by injection e))).trans (ba.block k hk), fun k hk => .inr (by simp [Value.ownBlock] at hk; omega), NO.self _ _, NO.self _ _⟩
    have HQ := Lib.hid hQ1
    have HT := Lib.hid hT1
    have HLn := Lib.hid (show (par0 S.par).length = 1 from by rw [HS0.out]; rfl)
    clear hW hWa hW2 ba hg hPa hb2 gb hlt hne hQ1 hT1 c7 c7a fza
    obtain ⟨g, hgg⟩ : ∃ g, w.heap.size = g := ⟨_, rfl⟩
    rw [hgg] at HQ HT
    obtain ⟨L, hL⟩ : ∃ L, 1 = L := ⟨_, rfl⟩
    obtain ⟨cap, hcap⟩ : ∃ cap, 1 = cap := ⟨_, rfl⟩
    have HQ' := Lib.hid (show PM n0 b (.slice (some ⟨g, 0, none⟩) L cap) vt vo { S with par := par0 S.par } evs W from by rw [← hL, ← hcap]; exact HQ.out)
    have HT' := Lib.hid (show TR b vp vt vo (.slice (some ⟨g, 0, none⟩) L cap) vt vo w W from by rw [← hL, ← hcap]; exact HT.out)
    have HL' := Lib.hid (show (par0 S.par).length = L from by rw [← hL]; exact HLn.out)
    clear HQ HT HLn hL hcap hgg HS0 
    obtain ⟨n, hn⟩ : ∃ n, L - 1 = n := ⟨_, rfl⟩
    have hL1 := par0_len HP.out.oks.len
    rw [HL'.out] at hL1
    have e1 : (L : Int) - 1 = (n : Int) := by omega
    have e2 : (n : Int) < (L : Int) := by omega
    have e3 : (0 : Int) ≤ (n : Int) := by omega
    have e4 : (L : Int) ≤ 16 := by omega
    obtain ⟨x, hx⟩ : ∃ x, (par0 S.par).getD n 0 = x := ⟨_, rfl⟩
    have hx9 : x ≤ 9999 := by rw [← hx]; exact par0_val HP.out.oks.val _ (by rw [List.getD_eq_getElem?_getD, List.getElem?_eq_getElem (show n < (par0 S.par).length by rw [HL'.out]; omega)]; exact List.getElem_mem _)
    obtain ⟨y, hy⟩ : ∃ y, min (x * 10 + d) 9999 = y := ⟨_, rfl⟩
    have f1 : (x : Int) ≤ 9999 := by omega
    have f2 : (0 : Int) ≤ (x : Int) := by omega
    have HX := Lib.hid (show (digS S c).par = (par0 S.par).set n y from by rw [HDg.out, HL'.out, hn, hx, hy])
    have HN := Lib.hid (show n < L ∧ L - 1 = n from ⟨by omega, hn⟩)
    obtain ⟨Wd, hWd⟩ : ∃ W', W.drew = W' := ⟨_, rfl⟩
    have HQd := Lib.hid (show PM n0 b (.slice (some ⟨g, 0, none⟩) L cap) vt vo { S with par := par0 S.par } evs Wd from by rw [← hWd]; exact HQ'.out.below (stay0 _))
    have HTd := Lib.hid (show TR b vp vt vo (.slice (some ⟨g, 0, none⟩) L cap) vt vo w Wd from by rw [← hWd]; exact HT'.out.trans (TR.obj (grown_drew _ _) (NO.self _ _) (NO.self _ _) (NO.self _ _)))
    have hR : (Kd.int .i64).R tI Wd n0 (fun _ => True) (.slice (some ⟨g, 0, none⟩) (nat (par0 S.par)).length cap) (nat (par0 S.par)) := by rw [nat_length, HL'.out]; exact HQd.out.par
    obtain ⟨hcl, hfz⟩ := Kd.R_cell (0 : Int) hR (n : Int) e3 (by rw [nat_length, HL'.out]; exact e2)
    have hcl2 : Wd.cell? ⟨g, n, none⟩ = some (.int .i64 (x : Int)) := by
      rw [Int.toNat_natCast] at hcl
      rw [hcl]
      show some (Value.int .i64 (rdOf 0 (nat (par0 S.par)) (n : Int))) = _
      rw [rdOf, Int.toNat_natCast, nat_get (by rw [HL'.out]; omega), hx]
    rw [Int.toNat_natCast] at hfz
    have hput := Kd.R_put hR (n : Int) (y : Int)
    rw [Int.toNat_natCast, ← nat_set, nat_length, HL'.out] at hput
    have HPut := Lib.hid hput
    have c7 : W.cell? ⟨b, 7, none⟩ = some (.slice (some ⟨g, 0, none⟩) L cap) := by rw [blk_cell HQ'.out.blk]; rfl
    have g7 := gw (w := W) HQ'.out.lt c7
    have hgl : g < W.heap.size := by have := World.block_lt_of_cell? Wd _ hcl2; rw [← hWd] at this; exact this
    have g9 := gw (w := W) hgl (show W.cell? ⟨g, n, none⟩ = some (.int .i64 (x : Int)) from by have := hcl2; rw [← hWd] at this; exact this)
    have HF := Lib.hid (show Hid (∀ W3, W3 = Wd.setCell ⟨g, n, none⟩ (.int .i64 (y : Int)) → ∃ vp' vt' vo', PM n0 b vp' vt' vo' (digS S c) (evs ++ []) W3 ∧ TR b vp vt vo vp' vt' vo' w W3) from by
      apply Lib.hid
      intro W3 hW3
      have hbg : b ≠ g := fun e => by
        obtain ⟨cells, hc⟩ := Kd.R_typed HQd.out.par g rfl
        rw [← e, HQd.out.blk] at hc
        injection hc with hc
        injection hc with _ hc _
        exact absurd hc (by decide)
      have hgr : Wd.grownBy W3 (some g) := by rw [hW3]; exact HPut.out.2
      obtain ⟨cells, hcg⟩ := Kd.R_typed HQd.out.par g rfl
      refine ⟨.slice (some ⟨g, 0, none⟩) L cap, vt, vo, ⟨?_, ?_, ?_, ?_, HP.out.ge, HOk.out⟩, ?_⟩
      · rw [hgr.block b HQd.out.lt (fun e => hbg (by injection e)), HQd.out.blk, HDg.out]
      · rw [HX.out, hW3]; exact HPut.out.1
      · rw [HDg.out]; exact R_obj HQd.out.txt hcg (by intro q hq; simp [Kd.int, Kd.scalar] at hq; subst hq; decide) hgr
      · rw [List.append_nil]; exact Kd.R_grown HQd.out.out hgr (fun k hk => hk)
      · have ht := HTd.out
        refine ⟨hgr.os.trans ht.os, hgr.tape.trans ht.tape, hgr.output.trans ht.output, Nat.le_trans ht.size hgr.size, fun k hk h1 h2 h3 h4 => ?_, ht.np, ht.nt, ht.no⟩
        refine (hgr.block k (Nat.lt_of_lt_of_le hk ht.size) (fun e => ?_)).trans (ht.keep k hk h1 h2 h3 h4)
        rcases ht.np k e.symm with h5 | h5
        · exact h2 h5.symm
        · omega)
    by_cases hmin : x * 10 + d ≤ 9999
    · have hy2 : (x : Int) * 10 + (d : Int) = (y : Int) := by omega
      have lem : (x : Int) * 10 + (d : Int) ≤ 9999 := by omega
      have lfm : decide ((x : Int) * 10 + (d : Int) ≤ 9999) = true := decide_eq_true lem
      have HY2 := Lib.hid hy2
      clear hn hL1 hx hx9 hy hR hcl hput hgl hmin hy2
      go_upto_region 3 with (fail)
      refine Q.wp_region_segsF none [] [0, 1, 2, 3, 4, 5, 6, 7, 8, 9, 10, 11, 12, 13, 14, 15, 16, 17, 18, 19, 20] 21 (by kernel_rfl) (by kernel_rfl) (by kernel_rfl) (by kernel_rfl) ?_
      dsimp only [Q.wpSegsF, Q.picks, Q.pick]
      repeat (go_big_quiet_step (fail))
      refine wpQuiet_nil ?_
      clear g7 g9 c7
      rw [hWd]
      clear hWd
      go_wp2_with fail
      refine NoPanic.normal ?_
      go_wp2_with fail
      first | go_end0 | ((try simp only [Exit.inBlock, Exit.then]); refine bodyPost_ret (results_none rfl _ _ _) rfl ?_)
      have HFo := HF.out.out
      rw [HY2.out]
      exact ⟨rfl, HFo _ rfl⟩
    · obtain rfl : y = 9999 := by omega
      have lem : ¬ (x : Int) * 10 + (d : Int) ≤ 9999 := by omega
      have lfm : decide ((x : Int) * 10 + (d : Int) ≤ 9999) = false := decide_eq_false lem
      clear hn hL1 hx hx9 hy hR hcl hput hgl hmin
      go_upto_region 3 with (fail)
      refine Q.wp_region_segsF none [] [0, 1, 2, 3, 4, 5, 6, 7, 8, 9, 10, 11, 12, 13, 14, 15, 16, 17, 18, 19, 20] 21 (by kernel_rfl) (by kernel_rfl) (by kernel_rfl) (by kernel_rfl) ?_
      dsimp only [Q.wpSegsF, Q.picks, Q.pick]
      repeat (go_big_quiet_step (fail))
      refine wpQuiet_nil ?_
      clear g7 g9 c7
      rw [hWd]
      clear hWd
      go_wp2_with fail
      refine NoPanic.normal ?_
      go_wp2_with fail
      first | go_end0 | ((try simp only [Exit.inBlock, Exit.then]); refine bodyPost_ret (results_none rfl _ _ _) rfl ?_)
      exact ⟨rfl, HF.out.out _ rfl⟩
  · have hS0 : ({ S with par := par0 S.par } : St) = S := by
      have : par0 S.par = S.par := by unfold par0; rw [if_neg hp0]
      rw [this]
    have HS0 := Lib.hid (show par0 S.par = S.par from by unfold par0; rw [if_neg hp0])
    obtain ⟨g, cap, hv1, _, _, _⟩ := Kd.R_form h.par (by rw [nat_length]; omega)
    rw [nat_length] at hv1
    obtain ⟨L, hL⟩ : ∃ L, S.par.length = L := ⟨_, rfl⟩
    rw [hL] at hv1
    have HT' := Lib.hid (show TR b vp vt vo (.slice (some ⟨g, 0, none⟩) L cap) vt vo w w from by rw [← hv1]; exact TR.refl _ _ _ _ _)
    have HQ' := Lib.hid (show PM n0 b (.slice (some ⟨g, 0, none⟩) L cap) vt vo { S with par := par0 S.par } evs w from by rw [hS0, ← hv1]; exact h)
    have HL' := Lib.hid (show (par0 S.par).length = L from by rw [HS0.out, hL])
    have c7 : w.cell? ⟨b, 7, none⟩ = some (.slice (some ⟨g, 0, none⟩) L cap) := by rw [← hv1, blk_cell h.blk]; rfl
    have t1 : ((L : Int) == 0) = false := beq_eq_false_iff_ne.2 (by omega)
    have t2 : decide ((L : Int) = 0) = false := decide_eq_false (by omega)
    have t3 : ¬ (L : Int) = 0 := by omega
    have t4 : ¬ L = 0 := by omega
    clear hS0 hv1 hL hp0 HS0
    clear h
    go_enter Try.func72, Try.ntmps72
    go_upto_region 2 with (fail)
    obtain ⟨W, hW⟩ : ∃ W, W = w := ⟨_, rfl⟩
    refine wp_at fun W2 hW2 => ?_
    have HQ2 := Lib.hid (show PM n0 b (.slice (some ⟨g, 0, none⟩) L cap) vt vo { S with par := par0 S.par } evs W2 from by rw [hW2]; exact HQ'.out)
    have HT2 := Lib.hid (show TR b vp vt vo (.slice (some ⟨g, 0, none⟩) L cap) vt vo w W2 from by rw [hW2]; exact HT'.out)
    clear hW W HQ' HT' hW2 c7 
    obtain ⟨n, hn⟩ : ∃ n, L - 1 = n := ⟨_, rfl⟩
    have hL1 := par0_len HP.out.oks.len
    rw [HL'.out] at hL1
    have e1 : (L : Int) - 1 = (n : Int) := by omega
    have e2 : (n : Int) < (L : Int) := by omega
    have e3 : (0 : Int) ≤ (n : Int) := by omega
    have e4 : (L : Int) ≤ 16 := by omega
    obtain ⟨x, hx⟩ : ∃ x, (par0 S.par).getD n 0 = x := ⟨_, rfl⟩
    have hx9 : x ≤ 9999 := by rw [← hx]; exact par0_val HP.out.oks.val _ (by rw [List.getD_eq_getElem?_getD, List.getElem?_eq_getElem (show n < (par0 S.par).length by rw [HL'.out]; omega)]; exact List.getElem_mem _)
    obtain ⟨y, hy⟩ : ∃ y, min (x * 10 + d) 9999 = y := ⟨_, rfl⟩
    have f1 : (x : Int) ≤ 9999 := by omega
    have f2 : (0 : Int) ≤ (x : Int) := by omega
    have HX := Lib.hid (show (digS S c).par = (par0 S.par).set n y from by rw [HDg.out, HL'.out, hn, hx, hy])
    have HN := Lib.hid (show n < L ∧ L - 1 = n from ⟨by omega, hn⟩)
    obtain ⟨Wd, hWd⟩ : ∃ W', W2.drew = W' := ⟨_, rfl⟩
    have HQd := Lib.hid (show PM n0 b (.slice (some ⟨g, 0, none⟩) L cap) vt vo { S with par := par0 S.par } evs Wd from by rw [← hWd]; exact HQ2.out.below (stay0 _))
    have HTd := Lib.hid (show TR b vp vt vo (.slice (some ⟨g, 0, none⟩) L cap) vt vo w Wd from by rw [← hWd]; exact HT2.out.trans (TR.obj (grown_drew _ _) (NO.self _ _) (NO.self _ _) (NO.self _ _)))
    have hR : (Kd.int .i64).R tI Wd n0 (fun _ => True) (.slice (some ⟨g, 0, none⟩) (nat (par0 S.par)).length cap) (nat (par0 S.par)) := by rw [nat_length, HL'.out]; exact HQd.out.par
    obtain ⟨hcl, hfz⟩ := Kd.R_cell (0 : Int) hR (n : Int) e3 (by rw [nat_length, HL'.out]; exact e2)
    have hcl2 : Wd.cell? ⟨g, n, none⟩ = some (.int .i64 (x : Int)) := by
      rw [Int.toNat_natCast] at hcl
      rw [hcl]
      show some (Value.int .i64 (rdOf 0 (nat (par0 S.par)) (n : Int))) = _
      rw [rdOf, Int.toNat_natCast, nat_get (by rw [HL'.out]; omega), hx]
    rw [Int.toNat_natCast] at hfz
    have hput := Kd.R_put hR (n : Int) (y : Int)
    rw [Int.toNat_natCast, ← nat_set, nat_length, HL'.out] at hput
    have HPut := Lib.hid hput
    have c7 : W2.cell? ⟨b, 7, none⟩ = some (.slice (some ⟨g, 0, none⟩) L cap) := by rw [blk_cell HQ2.out.blk]; rfl
    have g7 := gw (w := W2) HQ2.out.lt c7
    have hgl : g < W2.heap.size := by have := World.block_lt_of_cell? Wd _ hcl2; rw [← hWd] at this; exact this
    have g9 := gw (w := W2) hgl (show W2.cell? ⟨g, n, none⟩ = some (.int .i64 (x : Int)) from by have := hcl2; rw [← hWd] at this; exact this)
    have HF := Lib.hid (show Hid (∀ W3, W3 = Wd.setCell ⟨g, n, none⟩ (.int .i64 (y : Int)) → ∃ vp' vt' vo', PM n0 b vp' vt' vo' (digS S c) (evs ++ []) W3 ∧ TR b vp vt vo vp' vt' vo' w W3) from by
      apply Lib.hid
      intro W3 hW3
      have hbg : b ≠ g := fun e => by
        obtain ⟨cells, hc⟩ := Kd.R_typed HQd.out.par g rfl
        rw [← e, HQd.out.blk] at hc
        injection hc with hc
        injection hc with _ hc _
        exact absurd hc (by decide)
      have hgr : Wd.grownBy W3 (some g) := by rw [hW3]; exact HPut.out.2
      obtain ⟨cells, hcg⟩ := Kd.R_typed HQd.out.par g rfl
      refine ⟨.slice (some ⟨g, 0, none⟩) L cap, vt, vo, ⟨?_, ?_, ?_, ?_, HP.out.ge, HOk.out⟩, ?_⟩
      · rw [hgr.block b HQd.out.lt (fun e => hbg (by injection e)), HQd.out.blk, HDg.out]
      · rw [HX.out, hW3]; exact HPut.out.1
      · rw [HDg.out]; exact R_obj HQd.out.txt hcg (by intro q hq; simp [Kd.int, Kd.scalar] at hq; subst hq; decide) hgr
      · rw [List.append_nil]; exact Kd.R_grown HQd.out.out hgr (fun k hk => hk)
      · have ht := HTd.out
        refine ⟨hgr.os.trans ht.os, hgr.tape.trans ht.tape, hgr.output.trans ht.output, Nat.le_trans ht.size hgr.size, fun k hk h1 h2 h3 h4 => ?_, ht.np, ht.nt, ht.no⟩
        refine (hgr.block k (Nat.lt_of_lt_of_le hk ht.size) (fun e => ?_)).trans (ht.keep k hk h1 h2 h3 h4)
        rcases ht.np k e.symm with h5 | h5
        · exact h2 h5.symm
        · omega)
    by_cases hmin : x * 10 + d ≤ 9999
    · have hy2 : (x : Int) * 10 + (d : Int) = (y : Int) := by omega
      have lem : (x : Int) * 10 + (d : Int) ≤ 9999 := by omega
      have lfm : decide ((x : Int) * 10 + (d : Int) ≤ 9999) = true := decide_eq_true lem
      have HY2 := Lib.hid hy2
      clear hn hL1 hx hx9 hy hR hcl hput hgl hmin hy2
      go_upto_region 3 with (fail)
      refine Q.wp_region_segsF none [] [0, 1, 2, 3, 4, 5, 6, 7, 8, 9, 10, 11, 12, 13, 14, 15, 16, 17, 18, 19, 20] 21 (by kernel_rfl) (by kernel_rfl) (by kernel_rfl) (by kernel_rfl) ?_
      dsimp only [Q.wpSegsF, Q.picks, Q.pick]
      repeat (go_big_quiet_step (fail))
      refine wpQuiet_nil ?_
      clear g7 g9 c7
      rw [hWd]
      clear hWd
      go_wp2_with fail
      refine NoPanic.normal ?_
      go_wp2_with fail
      first | go_end0 | ((try simp only [Exit.inBlock, Exit.then]); refine bodyPost_ret (results_none rfl _ _ _) rfl ?_)
      have HFo := HF.out.out
      rw [HY2.out]
      exact ⟨rfl, HFo _ rfl⟩
    · obtain rfl : y = 9999 := by omega
      have lem : ¬ (x : Int) * 10 + (d : Int) ≤ 9999 := by omega
      have lfm : decide ((x : Int) * 10 + (d : Int) ≤ 9999) = false := decide_eq_false lem
      clear hn hL1 hx hx9 hy hR hcl hput hgl hmin
      go_upto_region 3 with (fail)
      refine Q.wp_region_segsF none [] [0, 1, 2, 3, 4, 5, 6, 7, 8, 9, 10, 11, 12, 13, 14, 15, 16, 17, 18, 19, 20] 21 (by kernel_rfl) (by kernel_rfl) (by kernel_rfl) (by kernel_rfl) ?_
      dsimp only [Q.wpSegsF, Q.picks, Q.pick]
      repeat (go_big_quiet_step (fail))
      refine wpQuiet_nil ?_
      clear g7 g9 c7
      rw [hWd]
      clear hWd
      go_wp2_with fail
      refine NoPanic.normal ?_
      go_wp2_with fail
      first | go_end0 | ((try simp only [Exit.inBlock, Exit.then]); refine bodyPost_ret (results_none rfl _ _ _) rfl ?_)
      exact ⟨rfl, HF.out.out _ rfl⟩
end Go.Proofs.Ytbcononfgpfdbaa.An
