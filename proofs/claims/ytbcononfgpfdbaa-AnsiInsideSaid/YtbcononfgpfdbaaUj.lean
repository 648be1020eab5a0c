/-
  ansi: New, Idle, Feed.
-/
import Derived.Test.YtbcononfgpfdbaaUi
namespace Go.Proofs.Ytbcononfgpfdbaa.An
open Go.RowKit Go.Proofs.Ytbcononfgpfdbaa.L Go.Proofs.Ytbcononfgpfdbaa.N Go.Proofs.YtbcononfgpfdbaaW.PrintWords

abbrev nilS : Value := .slice none 0 0
theorem endE_len (S : St) (k f : Nat) (t : ByteArray) : (endE S k f t).length ≤ 1 := by
  unfold endE
  split <;> simp
theorem escS_len (S : St) (c : Nat) : (escS S c).2.length ≤ 1 := by
  rw [escS_def]
  split
  · exact Nat.zero_le _
  split
  · exact Nat.zero_le _
  split
  · exact Nat.zero_le _
  · exact endE_len _ _ _ _
theorem conS_len (S : St) (c : Nat) : (conS S c).2.length ≤ 1 := by
  rw [conS_def]
  split
  · exact Nat.zero_le _
  split
  · exact endE_len _ _ _ _
  split
  · exact Nat.zero_le _
  split
  · exact Nat.zero_le _
  split
  · exact Nat.zero_le _
  · exact Nat.zero_le _
theorem takN_len (S : St) (r : Nat) : (takN S r).2.length ≤ 1 := by
  rw [takN_def]
  split
  · exact Nat.zero_le _
  split
  · exact Nat.zero_le _
  split
  · exact Nat.zero_le _
  split
  · exact Nat.le_refl _
  split
  · exact Nat.le_refl _
  split
  · exact escS_len _ _
  · exact conS_len _ _
theorem opS_len (S : St) (r : Nat) : (opS S r).2.length ≤ 1 := by
  rw [opS_def]
  split
  · exact endE_len _ _ _ _
  split
  · exact Nat.zero_le _
  split
  · exact Nat.zero_le _
  split
  · exact endE_len _ _ _ _
  split
  · exact takN_len _ _
  split
  · exact Nat.zero_le _
  · exact Nat.zero_le _
theorem takS_len (S : St) (r : Nat) : (takS S r).2.length ≤ 1 := by
  by_cases h : S.st = 3
  · unfold takS
    split
    · exact Nat.zero_le _
    split
    · exact Nat.zero_le _
    exact opS_len _ _
  · rw [takS_ne h]
    exact takN_len _ _
theorem stepS_len (S : St) (r : Int) : (stepS S r).2.length ≤ 1 := by
  unfold stepS
  split
  · exact takS_len _ _
  · exact Nat.zero_le _
theorem runS_len : ∀ (l : List Int) (S : St), (runS S l).2.length ≤ l.length
  | [], _ => Nat.le_refl _
  | r :: l, S => by
    rw [runS_cons, List.length_append, List.length_cons]
    have h1 := stepS_len S r
    have h2 := runS_len l (stepS S r).1
    omega
theorem runS_take (S : St) (l : List Int) {i : Nat} (h : i < l.length) : runS S (l.take (i + 1)) = ((stepS (runS S (l.take i)).1 (l.getD i 0)).1, (runS S (l.take i)).2 ++ (stepS (runS S (l.take i)).1 (l.getD i 0)).2) := by
  rw [List.take_succ_eq_append_getElem h, runS_snoc, List.getD_eq_getElem?_getD, List.getElem?_eq_getElem h]
  rfl
theorem ok_yes {r : Int} (h0 : 0 ≤ r) (h1 : r ≤ 1114111) (h2 : r < 55296 ∨ 57343 < r) : okP r = true := by
  unfold okP
  rcases h2 with h2 | h2
  · rw [decide_eq_false (show ¬ r < 0 by omega), decide_eq_false (show ¬ 1114111 < r by omega), decide_eq_false (show ¬ 55296 ≤ r by omega)]; rfl
  · rw [decide_eq_false (show ¬ r < 0 by omega), decide_eq_false (show ¬ 1114111 < r by omega), decide_eq_false (show ¬ r ≤ 57343 by omega), Bool.and_false]; rfl
theorem ok_no {r : Int} (h : r < 0 ∨ 1114111 < r ∨ (55296 ≤ r ∧ r ≤ 57343)) : okP r = false := by
  unfold okP
  rcases h with h | h | ⟨h, h'⟩
  · rw [decide_eq_true h]; rfl
  · rw [decide_eq_true h, Bool.or_true]; rfl
  · rw [decide_eq_true h, decide_eq_true h', Bool.and_true, Bool.or_true]; rfl
set_option maxRecDepth 100000 in
set_option maxHeartbeats 3200000 in
theorem newp_any (w : World) : Calls Try.prog 29 #[] w fun e w' => ∃ b, e = .returned (.pointer (some ⟨b, 0, none⟩)) ∧ w.heap.size ≤ b ∧ PM w.heap.size b nilS nilS nilS (enS 0) [] w' ∧ Below w.heap.size w w' := by
  go_enter Try.func29, Try.ntmps29
  go_wp2_with fail
  go_ret
  refine ⟨_, rfl, Nat.le_refl _, ⟨?_, Kd.R_nil _ _ _ _ _, Kd.R_nil _ _ _ _ _, Kd.R_nil _ _ _ _ _, Nat.le_refl _, OK_en (by decide)⟩, (Below.refl _ _).alloc (Nat.le_refl _) _⟩
  exact heap_alloc_new w _
set_option maxRecDepth 100000 in
set_option maxHeartbeats 3200000 in
theorem idle_any (n0 b : Nat) (t : ByteArray) (vp vt vo : Value) (S : St) (evs : List Ev) (w : World) (h : PMt t n0 b vp vt vo S evs w) : Calls Try.prog 32 #[.pointer (some ⟨b, 0, none⟩)] w fun e w' => e = .returned (.bool (decide (S.st = 0))) ∧ w' = w := by
  have c0 : w.cell? ⟨b, 0, none⟩ = some (.bool true) := by rw [blk_cell h.blk]; rfl
  have c1 : w.cell? ⟨b, 1, none⟩ = some (.int .i64 (S.st : Int)) := by rw [blk_cell h.blk]; rfl
  by_cases hs : S.st = 0
  · have He := Lib.hid (show decide (S.st = 0) = true from decide_eq_true hs)
    rw [hs] at c1
    clear h hs
    go_enter Try.func32, Try.ntmps32
    go_wp2_with fail
    go_ret
    exact ⟨by rw [He.out]; rfl, rfl⟩
  · have He := Lib.hid (show decide (S.st = 0) = false from decide_eq_false hs)
    have ebs : ((S.st : Int) == 0) = false := beq_eq_false_iff_ne.2 (by omega)
    have eds : decide ((S.st : Int) = 0) = false := decide_eq_false (by omega)
    have ens : ¬ (S.st : Int) = 0 := by omega
    clear h hs
    go_enter Try.func32, Try.ntmps32
    go_wp2_with fail
    go_ret
    exact ⟨by rw [He.out]; rfl, rfl⟩
set_option maxRecDepth 100000 in
set_option maxHeartbeats 6400000 in
theorem feed_any (n0 b : Nat) (vp vt : Value) (S : St) (l : List Int) (A : Option Addr) (c : Nat) (w : World) (h : PM n0 b vp vt nilS S [] w) (hC : (Kd.int .i32).C w A l.length l) (hl : l.length ≤ 999999998) (hA : 0 < l.length → ∀ ad, A = some ad → ad.block ≠ b ∧ some ad.block ≠ vp.ownBlock ∧ some ad.block ≠ vt.ownBlock) :
    Calls Try.prog 30 #[.pointer (some ⟨b, 0, none⟩), .slice A l.length c] w fun e w' => ∃ vp' vt' vr, e = .returned (.tuple #[vr, .int .i64 0]) ∧ PM n0 b vp' vt' nilS (runS S l).1 [] w' ∧ kE.R tE w' n0 (fun k => some k ≠ vp'.ownBlock) vr (runS S l).2 ∧ TR b vp vt nilS vp' vt' vr w w' := by
  have HP := Lib.hid h
  have HC := Lib.hid hC
  have HL := Lib.hid hl
  have HA := Lib.hid hA
  have z0 : (l.length : Int) ≤ 999999998 := by omega
  have fz := blk_frozen h.blk
  have c0 : w.cell? ⟨b, 0, none⟩ = some (.bool true) := by rw [blk_cell h.blk]; rfl
  have c13 : w.cell? ⟨b, 13, none⟩ = some nilS := by rw [blk_cell h.blk]; rfl
  have HD := Lib.hid (fun vp vt vo S evs W (r : Nat) h hl hr => take_any n0 b r vp vt vo S evs W h hl hr)
  clear h hC hl hA
  go_enter Try.func30, Try.ntmps30
  go_wp2_with fail
  refine wp_scope_straight ?_
  go_upto_region 4 with (fail)
  refine wp_at fun W hW => ?_
  have hb := blk_set HP.out.blk 13 nilS
  have hg := grown_set w b 13 nilS
  rw [← hW] at hb hg
  have HQ := Lib.hid (show PM n0 b vp vt nilS S [] W from HP.out.wr hb hg rfl rfl HP.out.oks)
  have HT := Lib.hid (show TR b vp vt nilS vp vt nilS w W from TR.obj hg (NO.self _ _) (NO.self _ _) (NO.self _ _))
  clear hW hb hg fz c0 c13
  go_wp2_with fail
  refine wp_label ?_
  go_wp2_with fail
  go_loopg [23] (l.length + 1) (fun g v23 w' => ∃ (i : Nat) (vp1 vt1 vo1 : Value), v23 = .int .i64 (i : Int) ∧ Hid (i ≤ l.length ∧ l.length < g + i) ∧ Hid (PM n0 b vp1 vt1 vo1 (runS S (l.take i)).1 (runS S (l.take i)).2 w') ∧ Hid (TR b vp vt nilS vp1 vt1 vo1 w w'))
  case atStart => exact ⟨0, vp, vt, nilS, rfl, Lib.hid ⟨by omega, by omega⟩, HQ, HT⟩
  case round =>
    obtain ⟨i, vp1, vt1, vo1, rfl, HJ, HPi, HTi⟩ := hrel
    clear HQ HT
    cases gk with
    | zero => have := HJ.out; omega
    | succ g1 =>
      by_cases hi : i < l.length
      · have HJ' := Lib.hid (show i < l.length ∧ l.length < (g1 + 1) + i from ⟨hi, HJ.out.2⟩)
        have z1 : (i : Int) < (l.length : Int) := by omega
        have z2 : (0 : Int) ≤ (i : Int) := by omega
        obtain ⟨bl, ol, rfl, hbl, hcl⟩ : ∃ b off, A = some ⟨b, off, none⟩ ∧ b < w.heap.size ∧ ∀ j, j < l.length → w.cell? ⟨b, off + j, none⟩ = some (.int .i32 (l.getD j 0)) := (C_open HC.out).2.resolve_left (fun h => by rw [h] at hi; exact absurd hi (by simp))
        have hap := HA.out (by omega) _ rfl
        have cl := (World.cell?_of_block (w := w) (a := ⟨bl, ol + i, none⟩) (HTi.out.keep bl hbl hap.1 hap.2.1 hap.2.2 (by simp [Value.ownBlock]))).trans (hcl i hi)
        have HS := Lib.hid (runS_take S l hi)
        have HEl := Lib.hid (show (runS S (l.take i)).2.length ≤ i from Nat.le_trans (runS_len _ _) (by rw [List.length_take]; omega))
        obtain ⟨x, hx⟩ : ∃ x, l.getD i 0 = x := ⟨_, rfl⟩
        rw [hx] at cl HS
        clear hx hbl hcl hap hi HJ
        generalize (runS S (l.take i)).1 = S1 at *
        generalize (runS S (l.take i)).2 = E1 at *
        by_cases h1 : x < 0
        · have Hv := Lib.hid (show stepS S1 x = (S1, []) from by unfold stepS; rw [ok_no (.inl h1)]; rfl)
          have lt0 : (x : Int) < 0 := by omega
          have ld0 : decide ((x : Int) < 0) = true := decide_eq_true (by omega)
          clear h1 HD
          go_wp2_with fail
          go_roundg g1
          case measure => have := HJ'.out; omega
          case rel => exact ⟨i + 1, vp1, vt1, vo1, by go_num, Lib.hid (by have := HJ'.out; omega), Lib.hid (by rw [HS.out, Hv.out, List.append_nil]; exact HPi.out), HTi⟩
        · by_cases h2 : 1114111 < x
          · have Hv := Lib.hid (show stepS S1 x = (S1, []) from by unfold stepS; rw [ok_no (.inr (.inl h2))]; rfl)
            have lt0 : ¬ (x : Int) < 0 := by omega
            have ld0 : decide ((x : Int) < 0) = false := decide_eq_false (by omega)
            have ltm : (1114111 : Int) < x := by omega
            have ldm : decide ((1114111 : Int) < x) = true := decide_eq_true (by omega)
            clear h1 h2 HD
            go_wp2_with fail
            go_roundg g1
            case measure => have := HJ'.out; omega
            case rel => exact ⟨i + 1, vp1, vt1, vo1, by go_num, Lib.hid (by have := HJ'.out; omega), Lib.hid (by rw [HS.out, Hv.out, List.append_nil]; exact HPi.out), HTi⟩
          · by_cases h3 : 55296 ≤ x
            · by_cases h4 : x ≤ 57343
              · have Hv := Lib.hid (show stepS S1 x = (S1, []) from by unfold stepS; rw [ok_no (.inr (.inr ⟨h3, h4⟩))]; rfl)
                have lt0 : ¬ (x : Int) < 0 := by omega
                have ld0 : decide ((x : Int) < 0) = false := decide_eq_false (by omega)
                have ltm : ¬ (1114111 : Int) < x := by omega
                have ldm : decide ((1114111 : Int) < x) = false := decide_eq_false (by omega)
                have lea : (55296 : Int) ≤ x := by omega
                have lfa : decide ((55296 : Int) ≤ x) = true := decide_eq_true (by omega)
                have leb : (x : Int) ≤ 57343 := by omega
                have lfb : decide ((x : Int) ≤ 57343) = true := decide_eq_true (by omega)
                clear h1 h2 h3 h4 HD
                go_wp2_with fail
                go_roundg g1
                case measure => have := HJ'.out; omega
                case rel => exact ⟨i + 1, vp1, vt1, vo1, by go_num, Lib.hid (by have := HJ'.out; omega), Lib.hid (by rw [HS.out, Hv.out, List.append_nil]; exact HPi.out), HTi⟩
              · obtain ⟨r, rfl⟩ : ∃ r : Nat, x = (r : Int) := ⟨x.toNat, by omega⟩
                have Hv := Lib.hid (show stepS S1 (r : Int) = takS S1 r from by unfold stepS; rw [ok_yes (by omega) (by omega) (.inr (by omega))]; rfl)
                have HQ := Lib.hid (HD.out vp1 vt1 vo1 S1 E1 wr r HPi.out (by have := HEl.out; have := HL.out; have := HJ'.out; omega) (by omega))
                have lt0 : ¬ (r : Int) < 0 := by omega
                have ld0 : decide ((r : Int) < 0) = false := decide_eq_false (by omega)
                have ltm : ¬ (1114111 : Int) < (r : Int) := by omega
                have ldm : decide ((1114111 : Int) < (r : Int)) = false := decide_eq_false (by omega)
                have lea : (55296 : Int) ≤ (r : Int) := by omega
                have lfa : decide ((55296 : Int) ≤ (r : Int)) = true := decide_eq_true (by omega)
                have leb : ¬ (r : Int) ≤ 57343 := by omega
                have lfb : decide ((r : Int) ≤ 57343) = false := decide_eq_false (by omega)
                clear h1 h2 h3 h4 HD
                go_wp2_with (go_at_call 50; refine HQ.out.mono ?_; rintro e w1 ⟨rfl, vp2, vt2, vo2, hp, ht⟩; (have HPq := Lib.hid hp); (have HTq := Lib.hid ht); clear hp ht HQ)
                go_roundg g1
                case measure => have := HJ'.out; omega
                case rel => exact ⟨i + 1, vp2, vt2, vo2, by go_num, Lib.hid (by have := HJ'.out; omega), Lib.hid (by rw [HS.out, Hv.out]; exact HPq.out), Lib.hid (HTi.out.trans HTq.out)⟩
            · obtain ⟨r, rfl⟩ : ∃ r : Nat, x = (r : Int) := ⟨x.toNat, by omega⟩
              have Hv := Lib.hid (show stepS S1 (r : Int) = takS S1 r from by unfold stepS; rw [ok_yes (by omega) (by omega) (.inl (by omega))]; rfl)
              have HQ := Lib.hid (HD.out vp1 vt1 vo1 S1 E1 wr r HPi.out (by have := HEl.out; have := HL.out; have := HJ'.out; omega) (by omega))
              have lt0 : ¬ (r : Int) < 0 := by omega
              have ld0 : decide ((r : Int) < 0) = false := decide_eq_false (by omega)
              have ltm : ¬ (1114111 : Int) < (r : Int) := by omega
              have ldm : decide ((1114111 : Int) < (r : Int)) = false := decide_eq_false (by omega)
              have lea : ¬ (55296 : Int) ≤ (r : Int) := by omega
              have lfa : decide ((55296 : Int) ≤ (r : Int)) = false := decide_eq_false (by omega)
              clear h1 h2 h3 HD
              go_wp2_with (go_at_call 50; refine HQ.out.mono ?_; rintro e w1 ⟨rfl, vp2, vt2, vo2, hp, ht⟩; (have HPq := Lib.hid hp); (have HTq := Lib.hid ht); clear hp ht HQ)
              go_roundg g1
              case measure => have := HJ'.out; omega
              case rel => exact ⟨i + 1, vp2, vt2, vo2, by go_num, Lib.hid (by have := HJ'.out; omega), Lib.hid (by rw [HS.out, Hv.out]; exact HPq.out), Lib.hid (HTi.out.trans HTq.out)⟩
      · obtain rfl : i = l.length := by have := HJ.out; omega
        clear hi HJ
        have hp := HPi.out
        have ht := HTi.out
        rw [List.take_length] at hp
        have HPp := Lib.hid hp
        have c13 : wr.cell? ⟨b, 13, none⟩ = some vo1 := by rw [blk_cell hp.blk]; rfl
        have fz := blk_frozen hp.blk
        clear hp ht HPi
        obtain ⟨A1, k1, hv1⟩ := Kd.R_slice HPp.out.out
        obtain ⟨m1, hm1⟩ : ∃ m, (runS S l).2.length = m := ⟨_, rfl⟩
        rw [hm1] at hv1
        subst hv1
        clear hm1
        go_wp2_with fail
        simp only [Exit.noGoto]
        go_ret2
        have hb := blk_set HPp.out.blk 13 nilS
        have hg := grown_set wr b 13 nilS
        exact ⟨vp1, vt1, _, rfl, ⟨hb, R_obj HPp.out.par HPp.out.blk (by intro q hq; simp [Kd.int, Kd.scalar] at hq; subst hq; decide) hg, R_obj HPp.out.txt HPp.out.blk (by intro q hq; simp [Kd.int, Kd.scalar] at hq; subst hq; decide) hg, Kd.R_nil _ _ _ _ _, HPp.out.ge, HPp.out.oks⟩, out_obj HPp.out.out HPp.out.blk hg, HTi.out.trans (TR.obj hg (NO.self _ _) (NO.self _ _) (NO.self _ _))⟩
end Go.Proofs.Ytbcononfgpfdbaa.An
