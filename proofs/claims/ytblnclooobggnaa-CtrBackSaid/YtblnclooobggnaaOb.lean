/-
  ctr: New, cipher, Blocks, block.
-/
import Derived.Test.YtblnclooobggnaaOa
import Derived.Test.YtblnclooobggnaaAg
import Derived.Test.YtblnclooobggnaaAi
import Derived.Test.YtblnclooobggnaaQs
namespace Go.Proofs.Ytblnclooobggnaa.A
open Go.RowKit Go.Proofs.Ytblnclooobggnaa.L Go.Proofs.Ytblnclooobggnaa.N Go.Proofs.YtblnclooobggnaaW.PrintWords

abbrev tSt : TypeId := 98
/-- a stream in memory -/
structure ST (p c : Nat) (key : List Nat) (tn : Nat) (w : World) : Prop where
  sp : w.heap[p]? = some (.cells #[.pointer (some ⟨c, 0, none⟩)] tSt (0, 0))
  cu : CU c key (tn : Int) w
theorem ST.lt {p c : Nat} {key : List Nat} {tn : Nat} {w : World} (h : ST p c key tn w) : p < w.heap.size := blk_lt h.sp
theorem ST.cell {p c : Nat} {key : List Nat} {tn : Nat} {w : World} (h : ST p c key tn w) : w.cell? ⟨p, 0, none⟩ = some (.pointer (some ⟨c, 0, none⟩)) := by rw [blk_cell h.sp]; rfl
theorem ST.below {p c : Nat} {key : List Nat} {tn : Nat} {w w1 : World} (h : ST p c key tn w) (hb : Below w.heap.size w w1) : ST p c key tn w1 := ⟨blk_below h.sp hb, h.cu.below hb⟩
theorem ST.ne {p c : Nat} {key : List Nat} {tn : Nat} {w : World} (h : ST p c key tn w) : p ≠ c := fun e => by
  obtain ⟨cs, hb⟩ := h.cu.blk
  rw [← e, h.sp] at hb
  injection hb with hb
  injection hb with _ hb _
  exact absurd hb (by decide)
theorem ST.turned {p c : Nat} {key : List Nat} {tn tn2 : Nat} {w w1 : World} (h : ST p c key tn w) (hg : w.grownBy w1 (some c)) (hc : CU c key (tn2 : Int) w1) : ST p c key tn2 w1 :=
  ⟨(hg.block p h.lt (fun e => h.ne (by injection e))).trans h.sp, hc⟩
theorem AB.loadQs {P : Program} {k : IntKind} {t e : TypeId} {b n B : Nat} {row : Nat → Prop} {l : List Nat} {w : World} (h : AB k t b l w) (hb : b < B) (hr : ¬ row b) (hu : P.underlying t = some (.array n e)) (hi : (P.info? t).map (·.size) = some l.length) : ∀ w', (∃ m : Qs.GW w B row, w' = m.w) → (Instr.loadAt t (.pointer (some ⟨b, 0, none⟩))).run P w' = .ok (.agg (arr k l)) w' := by
  rintro w' ⟨m, rfl⟩
  have := (h.keep (w1 := m.w) (m.h.block b hb hr)).load (P := P) hu hi
  simp only [Instr.loadAt, Instr.sureAddr, Sem.run_bind, Sem.run_pure, this, Result.andThen]
theorem CU.grown' {b c : Nat} {key : List Nat} {tn : Int} {w w1 : World} (h : CU b key tn w) (hg : w.grownBy w1 (some c)) (hne : b ≠ c) : CU b key tn w1 := h.keep (hg.block b h.lt (fun e => hne (by injection e)))
set_option maxRecDepth 100000 in
set_option maxHeartbeats 1600000 in
theorem newctr_any (key : List Nat) (w : World) (hk : key.length = 16) : Calls Try.prog 24 #[.agg (arr .u8 key)] w fun e w' => ∃ p c, e = .returned (.pointer (some ⟨p, 0, none⟩)) ∧ w.heap.size ≤ c ∧ w.heap.size ≤ p ∧ ST p c key 0 w' ∧ Below w.heap.size w w' := by
  have HK := Lib.hid hk
  clear hk
  go_enter Try.func24, Try.ntmps24
  go_upto_region 1 with (fail)
  refine wp_at fun W hW => ?_
  have HKW := Lib.hid (show AB .u8 27 w.heap.size key W from by rw [hW]; exact AB.mk w .u8 _ key)
  have HBW := Lib.hid (show Below w.heap.size w W from by rw [hW]; exact (Below.refl _ _).alloc (Nat.le_refl _) _)
  clear hW
  go_wp2_with (first
    | (refine load_ab .u8 w.heap.size key rfl rfl rfl HKW.out Try.underlying27 (by rw [HK.out]; exact info_key) ?_)
    | (go_at_call 16; refine (new_any key W HK.out).mono ?_; rintro e w3 ⟨c, rfl, hc1, hc2, hc3⟩; (have HC1 := Lib.hid hc1); (have HCU := Lib.hid hc2); (have HB3 := Lib.hid hc3); clear hc1 hc2 hc3))
  refine bodyPost_ret (v := .pointer (some ⟨w3.heap.size, 0, none⟩)) (by simp [results, Try.results24]) rfl ⟨_, c, rfl, Nat.le_trans HBW.out.size HC1.out, Nat.le_trans HBW.out.size HB3.out.size, ⟨?_, ?_⟩, ?_⟩
  · exact heap_alloc_new w3 _
  · exact HCU.out.below ((Below.refl _ _).alloc (Nat.le_refl _) _)
  · exact (HBW.out.trans (HB3.out.mono HBW.out.size)).alloc (Nat.le_trans HBW.out.size HB3.out.size) _
set_option maxRecDepth 100000 in
theorem cipher_any (p c : Nat) (w : World) (h : w.cell? ⟨p, 0, none⟩ = some (.pointer (some ⟨c, 0, none⟩))) : Calls Try.prog 42 #[.pointer (some ⟨p, 0, none⟩)] w fun e w' => e = .returned (.pointer (some ⟨c, 0, none⟩)) ∧ w' = w := by
  go_enter Try.func42, Try.ntmps42
  go_wp2_with fail
  go_ret
  exact ⟨rfl, rfl⟩
theorem blk_mid (n i : Nat) : fl (be8 n) 8 ++ fl (be8 i) 8 = ctrB n i := by
  have e1 := fl_all (be8 n)
  have e2 := fl_all (be8 i)
  rw [be8_len] at e1 e2
  rw [e1, e2, ctrB]
theorem mid_len {n i k : Nat} (h : k ≤ 8) : (fl (be8 n) k ++ fl (be8 i) k).length = 16 := by
  rw [List.length_append, fl_length _ (by rw [be8_len]; exact h), fl_length _ (by rw [be8_len]; exact h), be8_len, be8_len]
theorem mid_step {n i k : Nat} (h : k < 8) : ((fl (be8 n) k ++ fl (be8 i) k).set k ((be8 n).getD k 0)).set (8 + k) ((be8 i).getD k 0) = fl (be8 n) (k + 1) ++ fl (be8 i) (k + 1) := by
  have l1 : (fl (be8 n) k).length = 8 := by rw [fl_length _ (by rw [be8_len]; omega), be8_len]
  have l2 : (fl (be8 n) (k + 1)).length = 8 := by rw [fl_length _ (by rw [be8_len]; omega), be8_len]
  rw [List.set_append_left _ _ (by omega), fl_step (by rw [be8_len]; exact h), List.set_append_right _ _ (by omega), l2, show 8 + k - 8 = k from by omega, fl_step (by rw [be8_len]; exact h)]
theorem be_int (n k i : Nat) (hk : k < 8) (hi : 7 - k = i) : (n : Int) / 2 ^ (8 * i) % 256 = (((be8 n).getD k 0 : Nat) : Int) := by
  rw [be8_get _ hk, hi, show (256 : Nat) ^ i = 2 ^ (8 * i) from by rw [Nat.pow_mul]]
  simp
set_option maxRecDepth 100000 in
set_option maxHeartbeats 3200000 in
theorem block_any (p c tn n i : Nat) (key : List Nat) (w : World) (h : ST p c key tn w) (htn : tn < 4611686018427387904) (hn : n < 18446744073709551616) (hi : i < 4611686018427387904) (hk : key.length = 16) (hk8 : ∀ x ∈ key, x < 256) :
    Calls Try.prog 43 #[.pointer (some ⟨p, 0, none⟩), .int .u64 (n : Int), .int .i64 (i : Int)] w fun e w' => e = .returned (.tuple #[.agg (arr .u8 (blkN key n i)), .int .i64 0]) ∧ CU c key ((tn + 1 : Nat) : Int) w' ∧ w.grownBy w' (some c) := by
  have HS := Lib.hid h
  have HT := Lib.hid (fun W (h : CU c key (tn : Int) W) => turn_any c tn key (ctrB n i) W h ⟨by omega, by omega⟩ hk hk8 (ctrB_len n i) (ctrB_lt n i))
  have HPl := Lib.hid (blkN_len key n i)
  have HBy := Lib.hid (fun k j (hk : k < 8) (hj : 7 - k = j) => be_int n k j hk hj)
  have HBz := Lib.hid (fun k j (hk : k < 8) (hj : 7 - k = j) => be_int i k j hk hj)
  have HNi := Lib.hid (show n < 18446744073709551616 ∧ i < 4611686018427387904 from ⟨hn, hi⟩)
  have y1 : (n : Int) < 18446744073709551616 := by omega
  have y2 : (i : Int) < 4611686018427387904 := by omega
  have y3 : (0 : Int) ≤ (n : Int) := by omega
  have y4 : (0 : Int) ≤ (i : Int) := by omega
  have y5 : IntKind.u64.wrap (i : Int) = (i : Int) := wraps_u64 _ (by omega) (by omega)
  rw [show turnP key (ctrB n i) = blkN key n i from rfl] at HT
  clear h htn hn hi hk hk8
  generalize blkN key n i = P at *
  have HPi := Lib.hid (show (Try.prog.info? tB).map (·.size) = some P.length from by rw [HPl.out]; exact info_B)
  go_enter Try.func43, Try.ntmps43
  go_upto_region 2 with (fail)
  refine wp_at fun W hW => ?_
  obtain ⟨h6, h8, hb, hsz⟩ := two_ab (k := .u8) (k' := .u8) z16 z16 hW
  have H6 := Lib.hid h6
  have H8 := Lib.hid h8
  have HB := Lib.hid hb
  clear hW h6 h8 hb hsz
  generalize hn0 : w.heap.size = n0 at *
  have Hn0 := Lib.hid hn0
  clear hn0
  go_wp2_with fail
  go_loopg [9, 10] 10 (fun g v9 v10 w' => ∃ k : Nat, v10 = .int .i64 (k : Int) ∧ Hid (k ≤ 8 ∧ 8 < g + k) ∧ Hid (AB .u8 tB n0 z16 w') ∧ Hid (AB .u8 tB (n0 + 1) (fl (be8 n) k ++ fl (be8 i) k) w') ∧ Hid (Below n0 w w'))
  case atStart => exact ⟨0, rfl, Lib.hid ⟨by omega, by omega⟩, H6, Lib.hid (by have := H8.out; rw [fl_zero, fl_zero, be8_len, be8_len]; exact this), HB⟩
  case round =>
    obtain ⟨k, rfl, HJ, HZ, HA, HBk⟩ := hrel
    clear H6 H8 HB
    cases gk with
    | zero => have := HJ.out; omega
    | succ g1 =>
      by_cases hk : k < 8
      · have HJ' := Lib.hid (show k < 8 ∧ 8 < (g1 + 1) + k from ⟨hk, HJ.out.2⟩)
        obtain ⟨j, hj⟩ : ∃ j, 7 - k = j := ⟨_, rfl⟩
        have z0 : (k : Int) < 8 := by omega
        have z1 : (0 : Int) ≤ (k : Int) := by omega
        have z2 : (7 : Int) - (k : Int) = (j : Int) := by omega
        have z3 : (j : Int) ≤ 7 := by omega
        have z4 : (0 : Int) ≤ (j : Int) := by omega
        have z5 : (8 + (k : Int)).toNat = 8 + k := by omega
        have z6 : 8 + (k : Int) < 16 := by omega
        have z7 : (0 : Int) ≤ 8 + (k : Int) := by omega
        have z8 : (k : Int) < 16 := by omega
        have b1 := HBy.out k j hk hj
        have b2 := HBz.out k j hk hj
        obtain ⟨va, hva⟩ : ∃ y, (be8 n).getD k 0 = y := ⟨_, rfl⟩
        obtain ⟨vb, hvb⟩ : ∃ y, (be8 i).getD k 0 = y := ⟨_, rfl⟩
        have hm := mid_step (n := n) (i := i) hk
        rw [hva] at b1 hm
        rw [hvb] at b2 hm
        have HM := Lib.hid hm
        have hl := mid_len (n := n) (i := i) (k := k) (by omega)
        have c1 := HA.out.cell (i := k) (by rw [hl]; omega)
        have f1 := HA.out.fz k
        have c2 := (HA.out.set k va).cell (i := 8 + k) (by rw [List.length_set, hl]; omega)
        have f2 := (HA.out.set k va).fz (8 + k)
        clear hj hva hvb hm hl hk HJ
        go_wp2_with fail
        clear c1 c2 f1 f2 b1 b2
        go_roundg g1
        case measure => have := HJ'.out; omega
        case rel =>
          have hx := (HA.out.set k va).set (8 + k) vb
          rw [HM.out] at hx
          exact ⟨k + 1, by go_num, Lib.hid (by have := HJ'.out; omega), Lib.hid (AB.other (AB.other HZ.out (by omega)) (by omega)), Lib.hid hx, Lib.hid ((HBk.out.setCell (p := ⟨n0 + 1, k, none⟩) (by show n0 ≤ n0 + 1; omega) _).setCell (p := ⟨n0 + 1, 8 + k, none⟩) (by show n0 ≤ n0 + 1; omega) _)⟩
      · obtain rfl : k = 8 := by have := HJ.out; omega
        clear hk HJ
        have HX := Lib.hid (show AB .u8 tB (n0 + 1) (ctrB n i) wr from by have := HA.out; rwa [blk_mid] at this)
        have HSr := Lib.hid (show ST p c key tn wr from HS.out.below (by rw [Hn0.out]; exact HBk.out))
        have HNe := Lib.hid (show c < n0 ∧ p < n0 from by have h1 := HS.out.lt; have h2 := HS.out.cu.lt; rw [Hn0.out] at h1 h2; exact ⟨h2, h1⟩)
        have HXi := Lib.hid (show (Try.prog.info? tB).map (·.size) = some (ctrB n i).length from by rw [ctrB_len]; exact info_B)
        clear HA HS HBy HBz HNi
        go_wp2_with fail
        have HXd := Lib.hid (show AB .u8 tB (n0 + 1) (ctrB n i) wr.drew from HX.out)
        have HZd := Lib.hid (show AB .u8 tB n0 z16 wr.drew from HZ.out)
        have HSd := Lib.hid (show ST p c key tn wr.drew from HSr.out.below (stay0 wr))
        have HBd := Lib.hid HBk.out.drew
        refine Qs.wp_region_segs (fun k => k = c ∨ k = n0) [([0, 2], some 1), ([], some 3), ([4, 5], some 6), ([7], none)] (by kernel_rfl) (by kernel_rfl) (by kernel_rfl) (by kernel_rfl) ?_
        dsimp only [Qs.wpSegs, Q.picks, Q.pick]
        obtain ⟨Wd, hWd⟩ : ∃ W', wr.drew = W' := ⟨_, rfl⟩
        have hsz : wr.heap.size = Wd.heap.size := by rw [← hWd]; rfl
        rw [hsz]
        rw [hWd] at HXd HZd HSd HBd ⊢
        have HLt := Lib.hid HXd.out.lt
        clear hWd hsz HX HZ HSr HBk
        repeat (go_big_quiet_step (fail))
        refine quiet_load tB (.tmp 8) (.pointer (some ⟨n0 + 1, 0, none⟩)) (.agg (arr .u8 (ctrB n i))) rfl rfl rfl (AB.loadQs HXd.out HXd.out.lt (by have := HNe.out; rintro (h | h) <;> omega) Try.underlying26 HXi.out) ?_
        go_simp
        refine wpQuiet_nil ?_
        go_wp2_with fail
        refine (cipher_any p c _ HSd.out.cell).mono ?_
        rintro e w5 ⟨rfl, hw5⟩
        rw [hw5]
        clear hw5 w5
        go_wp2_with fail
        refine Qs.ev_keep (Below.refl _ _) (Nat.le_refl _) ?_
        refine wpQuiet_nil ?_
        go_wp2_with fail
        refine (HT.out _ HSd.out.cu).mono ?_
        rintro e w6 ⟨rfl, hcu, hg⟩
        have HZ6 := Lib.hid (HZd.out.grown hg (fun e => by injection e with e; have := HNe.out; omega))
        have HCU := Lib.hid hcu
        have HG6 := Lib.hid hg
        clear hcu hg
        go_wp2_with fail
        refine Qs.ev_app (Qs.Gr.of_grown HG6.out (fun k hk => .inl (by injection hk with hk; exact hk.symm)) (Nat.le_refl _)) (Nat.le_refl _) (Qs.NewRow.self _ _) ?_
        repeat (go_big_quiet_step (fail))
        refine wpQuiet_nil ?_
        refine store_ab .u8 n0 z16 P rfl rfl rfl rfl rfl HZ6.out HPi.out (by rw [HPl.out]; rfl) ?_
        intro w7 h7 hg7
        have H7 := Lib.hid h7
        have HG7 := Lib.hid hg7
        clear h7 hg7
        refine Qs.ev_app (Qs.Gr.of_grown HG7.out (fun k hk => .inr (by injection hk with hk; exact hk.symm)) HG6.out.size) (Nat.le_refl _) (Qs.NewRow.self _ _) ?_
        repeat (go_big_quiet_step (fail))
        refine wpQuiet_nil ?_
        refine NoPanic.normal ?_
        have hl := H7.out.load (P := Try.prog) Try.underlying26 HPi.out
        have hcu : CU c key ((tn + 1 : Nat) : Int) w7 := (show CU c key ((tn : Int) + 1) w7 from (show CU c key ((tn : Int) + 1) w6 from .inl HCU.out).grown' HG7.out (by have := HNe.out; omega))
        go_wp2_with fail
        exact bodyPost_ret (v := .tuple #[.agg (arr .u8 P), .int .i64 0]) (by simp [results, Try.results43, hl, asAddr]) rfl ⟨rfl, hcu, by
          have h1 : w.grownBy Wd (some c) := grown_below (by rw [Hn0.out]; exact HBd.out) _
          have h2 := h1.trans HG6.out
          exact ⟨HG7.out.os.trans h2.os, HG7.out.tape.trans h2.tape, HG7.out.output.trans h2.output, Nat.le_trans h2.size HG7.out.size, fun k hk hne => (HG7.out.block k (Nat.lt_of_lt_of_le hk h2.size) (fun e => by injection e with e; rw [Hn0.out] at hk; omega)).trans (h2.block k hk hne)⟩⟩
end Go.Proofs.Ytblnclooobggnaa.A
