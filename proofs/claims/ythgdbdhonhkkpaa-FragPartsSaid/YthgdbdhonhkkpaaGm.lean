/-
  frag: the document's Write and Read.
-/
import Derived.Test.YthgdbdhonhkkpaaGl
import Derived.Test.YthgdbdhonhkkpaaRb
namespace Go.Proofs.Ythgdbdhonhkkpaa.Fg
open Go.RowKit Go.Proofs.Ythgdbdhonhkkpaa.L Go.Proofs.Ythgdbdhonhkkpaa.V Go.Proofs.Ythgdbdhonhkkpaa.N Go.Proofs.YthgdbdhonhkkpaaW.PrintWords

set_option maxRecDepth 100000 in
set_option maxHeartbeats 1600000 in
theorem rwrite_any (id ix ct : Int) (d : List Int) (A : Option Addr) (c : Nat) (w : World) (hC : (Kd.int .u8).C w A d.length d) (hg : rightZ id ix ct d.length = true) :
    Calls Try.prog 29 #[.agg #[.int .u64 id, .int .i64 ix, .int .i64 ct, .slice A d.length c]] w fun e w' => ∃ v, e = .returned v ∧ (Kd.int .u8).R 5 w' w.heap.size (fun _ => True) v (wrL id ix ct d) ∧ Below w.heap.size w w' := by
  have hX := heap_alloc_new w (.cells #[.int .u64 id, .int .i64 ix, .int .i64 ct, .slice A d.length c] tR)
  have hW : Below w.heap.size w (w.alloc (.cells #[.int .u64 id, .int .i64 ix, .int .i64 ct, .slice A d.length c] tR)) := (Below.refl _ _).alloc (Nat.le_refl _) _
  have HC := Lib.hid (Kd.C_below hC hW)
  have HW := Lib.hid hW
  have HX := Lib.hid hX
  have HLt := Lib.hid (show w.heap.size < (w.alloc (.cells #[.int .u64 id, .int .i64 ix, .int .i64 ct, .slice A d.length c] tR)).heap.size from by simp)
  have HL := Lib.hid (show wrL id ix ct d = putL id ++ [ix, ct] ++ d from if_pos hg)
  obtain ⟨g1, g2, g3, g4, g5, g6, g7⟩ := right_id hg
  have HPl := Lib.hid (putL_len id)
  have HDl := Lib.hid g7
  have HG := Lib.hid g1
  clear hC hW hX hg
  go_enter Try.func29, Try.ntmps29
  go_upto_region 1 with (fail)
  refine wp_at fun W0 hW0 => ?_
  have hW1 : W0 = w.alloc (.cells #[.int .u64 id, .int .i64 ix, .int .i64 ct, .slice A d.length c] tR) := hW0.trans rfl
  rw [← hW1] at HC HW HX HLt
  clear hW0 hW1
  have k0 := (blk_cell HX.out 0).trans rfl
  go_wp2_with fail
  refine (rput_any id W0 (by have := HG.out; omega)).mono ?_
  rintro e W2 ⟨v, rfl, hv, hb2⟩
  have HB2 := Lib.hid hb2
  have HX2 := Lib.hid (blk_below HX.out hb2)
  have HV2 := Lib.hid hv
  obtain ⟨A1, q1, rfl⟩ := Kd.R_slice hv
  clear hv hb2 k0
  have k1 := (blk_cell HX2.out 1).trans rfl
  have k2 := (blk_cell HX2.out 2).trans rfl
  have k3 := (blk_cell HX2.out 3).trans rfl
  have hC2 := C_of_blk (w := W2.alloc (.cells #[.int .u8 ix, .int .u8 ct] 5)) (b := W2.heap.size) (k := .u8) (e := 5) (l := [ix, ct]) (heap_alloc_new _ _) (by show 2 ≤ maxLen; decide)
  have HC2 := Lib.hid hC2
  have HB3 := Lib.hid (HB2.out.alloc HB2.out.size (.cells #[.int .u8 ix, .int .u8 ct] 5))
  clear hC2
  go_wp2_with (first
    | (at_builtin; refine appn (w0 := W0) .u8 W0.heap.size (.tmp 7) (.tmp 14) 23 5 1 rfl rfl Try.underlying23 S.info_u8 (by decide) _ (putL id) [ix, ct] (some ⟨W2.heap.size, 0, none⟩) 2 2 rfl rfl (Kd.R_alloc HV2.out _) HC2.out HB3.out HB3.out.size (by have := HPl.out; omega) ?_; intro v4 w4 hr4 hb4 _; (have HR4 := Lib.hid hr4); (have HB4 := Lib.hid hb4); (have HX4 := Lib.hid ((hb4.block _ HLt.out).trans HX.out)); clear hr4 hb4 k1 k2 k3; (have k3 := (blk_cell HX4.out 3).trans rfl))
    | (at_builtin; refine appn (w0 := W0) .u8 W0.heap.size (.tmp 16) (.tmp 18) 23 5 1 rfl rfl Try.underlying23 S.info_u8 (by decide) v4 (putL id ++ [ix, ct]) d A d.length c rfl rfl HR4.out (Kd.C_below HC.out HB4.out) HB4.out HB4.out.size (by have := HPl.out; have := HDl.out; rw [List.length_append]; show ((putL id).length + 2 + d.length) * 1 ≤ _; omega) ?_; intro v5 w5 hr5 hb5 _; (have HR5 := Lib.hid hr5); (have HB5 := Lib.hid hb5); clear hr5 hb5))
  go_ret
  exact ⟨_, rfl, by rw [HL.out]; exact Kd.R_lower HR5.out HW.out.size, HW.out.trans (HB5.out.mono HW.out.size)⟩
theorem z4_load {w : World} {b : Nat} {a0 a1 a2 a3 : Value} (h : w.heap[b]? = some (.cells #[a0, a1, a2, a3] tR (0, 0))) (v : Value) (hv : v = .agg #[a0, a1, a2, a3]) : (loadVar tR ⟨b, 0, none⟩).run Try.prog w = .ok v w := by
  rw [hv]; exact load4R h
def rdE (r : Pt × Int) (A : Option Addr) (c : Nat) : Ending := .returned (.tuple #[ptV r.1 (.slice A r.1.2.2.2.length c), .int .i64 r.2])
set_option maxRecDepth 100000 in
set_option maxHeartbeats 3200000 in
theorem rread_any (l : List Int) (A : Option Addr) (c : Nat) (w : World) (hC : (Kd.int .u8).C w A l.length l) (hc : l.length ≤ c) (hb : okB l) (hsz : l.length ≤ 140737488355328) :
    Calls Try.prog 26 #[.slice A l.length c] w fun e w' => ∃ A' c', e = rdE (readR l) A' c' ∧ (Kd.int .u8).C w A' (readR l).1.2.2.2.length (readR l).1.2.2.2 ∧ Below w.heap.size w w' := by
  have hmx := (C_open hC).1
  have hZ : w.alloc (.cells #[.int .u64 0, .int .i64 0, .int .i64 0, .slice none 0 0] tR) = w.alloc (.cells #[.int .u64 0, .int .i64 0, .int .i64 0, .slice none 0 0] tR) := rfl
  have HX := Lib.hid (heap_alloc_new w (.cells #[.int .u64 0, .int .i64 0, .int .i64 0, .slice none 0 0] tR))
  have HW := Lib.hid (show Below w.heap.size w (w.alloc (.cells #[.int .u64 0, .int .i64 0, .int .i64 0, .slice none 0 0] tR)) from (Below.refl _ _).alloc (Nat.le_refl _) _)
  have hG := rget_any l A c 0 (w.alloc (.cells #[.int .u64 0, .int .i64 0, .int .i64 0, .slice none 0 0] tR)) (Kd.C_below hC HW.out) hc hb
  rw [getR_zero] at hG
  have hR : readR l = if (dec l).2.2 ≠ 0 then (zP, (dec l).2.2) else if l.length < (dec l).2.1.toNat + 2 then (zP, 10) else if rightZ (dec l).1 (l.getD (dec l).2.1.toNat 0) (l.getD ((dec l).2.1.toNat + 1) 0) (l.length - ((dec l).2.1.toNat + 2)) then (((dec l).1, l.getD (dec l).2.1.toNat 0, l.getD ((dec l).2.1.toNat + 1) 0, l.drop ((dec l).2.1.toNat + 2)), 0) else (zP, 3) := rfl
  clear hZ
  by_cases he : (dec l).2.2 = 0
  case neg =>
    rw [if_neg he] at hG
    rw [if_pos he] at hR
    obtain ⟨er, her⟩ : ∃ er, (dec l).2.2 = er := ⟨_, rfl⟩
    rw [her] at hG hR he
    simp only [getV] at hG
    have HG := Lib.hid hG
    have HR := Lib.hid hR
    have t4 : (er != 0) = true := by rw [bne_iff_ne]; exact he
    clear hG hR he her hC hc hb hmx
    go_enter Try.func26, Try.ntmps26
    go_wp2_with (go_at_call 61; refine HG.out.mono ?_; rintro e w1 ⟨rfl, hb1⟩; (have HX1 := Lib.hid (blk_below HX.out hb1)); (have HB1 := Lib.hid (HW.out.trans (hb1.mono HW.out.size))); clear hb1 HG; (have k0 := (blk_cell HX1.out 0).trans rfl); (have k1 := (blk_cell HX1.out 1).trans rfl); (have k2 := (blk_cell HX1.out 2).trans rfl); (have k3 := (blk_cell HX1.out 3).trans rfl); (have f0 := blk_frozen HX1.out 0); (have f1 := blk_frozen HX1.out 1); (have f2 := blk_frozen HX1.out 2); (have f3 := blk_frozen HX1.out 3))
    have hp := set4 HX1.out (.int .u64 0) (.int .i64 0) (.int .i64 0) (.slice none 0 0)
    have hl := load4R hp.1
    exact bodyPost_ret (v := .tuple #[ptV zP (.slice none 0 0), .int .i64 er]) (by simp [results, Try.results26, hl, asAddr, ptV, zP]) rfl ⟨none, 0, by rw [HR.out]; rfl, by rw [HR.out]; exact Kd.C_nil _ _, below_grown HB1.out HB1.out.size hp.2 (Nat.le_refl _)⟩
  rw [if_pos he] at hG
  rw [if_neg (by rw [he]; decide)] at hR
  have hdl := dec_len l he
  have hdb := dec_bd l hb
  obtain ⟨q, hq⟩ : ∃ q : Nat, (dec l).2.1 = (q : Int) := ⟨_, (Int.toNat_of_nonneg (by omega)).symm⟩
  rw [hq] at hG hdl hR
  rw [Int.toNat_natCast] at hR
  obtain ⟨id, hid⟩ : ∃ id, (dec l).1 = id := ⟨_, rfl⟩
  rw [hid] at hG hR hdb
  simp only [getV] at hG
  have HG := Lib.hid hG
  have z1 : (q : Int) ≤ (l.length : Int) := by omega
  have z2 : (1 : Int) ≤ (q : Int) := by omega
  have z3 : (l.length : Int) ≤ 9223372036854775807 := by omega
  have hql : q ≤ l.length := by omega
  clear hG he hq hid hdl
  by_cases hs : l.length < q + 2
  · rw [if_pos hs] at hR
    have HR := Lib.hid hR
    have t1 : decide ((l.length : Int) < (q : Int) + 2) = true := decide_eq_true (by omega)
    have HWr := Lib.hid (show (9223372036854775807 : Int) ≥ (l.length : Int) from by omega)
    by_cases hbig : (q : Int) + 2 ≤ 9223372036854775807
    · clear hR hs hC hc hb hmx hdb hql
      go_enter Try.func26, Try.ntmps26
      go_wp2_with (go_at_call 61; refine HG.out.mono ?_; rintro e w1 ⟨rfl, hb1⟩; (have HX1 := Lib.hid (blk_below HX.out hb1)); (have HB1 := Lib.hid (HW.out.trans (hb1.mono HW.out.size))); clear hb1 HG; (have k0 := (blk_cell HX1.out 0).trans rfl); (have k1 := (blk_cell HX1.out 1).trans rfl); (have k2 := (blk_cell HX1.out 2).trans rfl); (have k3 := (blk_cell HX1.out 3).trans rfl); (have f0 := blk_frozen HX1.out 0); (have f1 := blk_frozen HX1.out 1); (have f2 := blk_frozen HX1.out 2); (have f3 := blk_frozen HX1.out 3))
      have hp := set4 HX1.out (.int .u64 0) (.int .i64 0) (.int .i64 0) (.slice none 0 0)
      have hl := load4R hp.1
      exact bodyPost_ret (v := .tuple #[ptV zP (.slice none 0 0), .int .i64 10]) (by simp [results, Try.results26, hl, asAddr, ptV, zP]) rfl ⟨none, 0, by rw [HR.out]; rfl, by rw [HR.out]; exact Kd.C_nil _ _, below_grown HB1.out HB1.out.size hp.2 (Nat.le_refl _)⟩
    · exfalso
      omega
  rw [if_neg hs] at hR
  have t1 : decide ((l.length : Int) < (q : Int) + 2) = false := decide_eq_false (by omega)
  have z4 : (q : Int) + 2 ≤ (l.length : Int) := by omega
  obtain ⟨b, off, rfl, hbl, hcell⟩ := (C_open hC).2.resolve_left (fun h => by rw [h] at hs; simp at hs)
  have c0 := hcell q (by omega)
  have c1 := hcell (q + 1) (by omega)
  have o0 := hb.at_ q
  have o1 := hb.at_ (q + 1)
  obtain ⟨x, hx⟩ : ∃ x, l.getD q 0 = x := ⟨_, rfl⟩
  obtain ⟨y, hy⟩ : ∃ y, l.getD (q + 1) 0 = y := ⟨_, rfl⟩
  rw [hx] at c0 o0 hR
  rw [hy] at c1 o1 hR
  have z5 : 0 ≤ x := o0.1
  have z6 : x < 256 := o0.2
  have z7 : 0 ≤ y := o1.1
  have z8 : y < 256 := o1.2
  obtain ⟨d, hd⟩ : ∃ d, l.drop (q + 2) = d := ⟨_, rfl⟩
  have hdlen : d.length = l.length - (q + 2) := by rw [← hd, List.length_drop]
  rw [hd] at hR
  obtain ⟨i0, hi0, hz0⟩ := info_of S.info_u8
  have hcut : ∃ A' c', (∀ W : World, (Instr.slice 23 (.slice (some ⟨b, off, none⟩) l.length c) (some (.int .i64 ((q : Int) + 2))) none none).run Try.prog W = .ok (.slice A' d.length c') W) ∧ (Kd.int .u8).C w A' d.length d := by
    refine ⟨_, _, fun W => (cut_from 23 5 .i64 Try.underlying23 hi0 1 hz0 (some ⟨b, off, none⟩) l.length c ((q : Int) + 2) (by omega) (by omega) W).trans (by rw [show ((q : Int) + 2).toNat = q + 2 from by omega, hdlen]), ?_⟩
    have h := Kd.C_mid (xs := l) (lo := q + 2) (hi := l.length) (c := c) hC (by omega) (by omega) (by omega)
    rw [List.take_of_length_le (by omega), hd] at h
    exact h
  obtain ⟨A', c', hcut, hC'⟩ := hcut
  have HC' := Lib.hid hC'
  have HQc := Lib.hid (show w.cell? ⟨b, off + q, none⟩ = some (.int .u8 x) ∧ w.cell? ⟨b, off + (q + 1), none⟩ = some (.int .u8 y) ∧ b < w.heap.size from ⟨c0, c1, hbl⟩)
  rw [← hdlen] at hR
  have HRg := Lib.hid (fun W => rright_any id x y A' d.length c' W hdb.1)
  clear hC hc hb hmx hql hs hcell c0 c1 o0 o1 hx hy hd hdlen hC' hbl hi0 hz0 hdb
  cases hr : rightZ id x y d.length with
  | true =>
    rw [hr, if_pos rfl] at hR
    have HR := Lib.hid hR
    have hq := fun W => HRg.out W
    rw [hr] at hq
    have HQ := Lib.hid hq
    clear hR hq HRg hr
    go_enter Try.func26, Try.ntmps26
    go_upto_region 6 with (go_at_call 61; refine HG.out.mono ?_; rintro e w1 ⟨rfl, hb1⟩; (have HX1 := Lib.hid (blk_below HX.out hb1)); (have HB1 := Lib.hid (HW.out.trans (hb1.mono HW.out.size))); clear hb1 HG)
    have bb : b < w1.heap.size := Nat.lt_of_lt_of_le HQc.out.2.2 HB1.out.size
    have q0 := gw bb ((HB1.out.cell (p := ⟨b, off + q, none⟩) HQc.out.2.2).trans HQc.out.1)
    have q1 := gw bb ((HB1.out.cell (p := ⟨b, off + (q + 1), none⟩) HQc.out.2.2).trans HQc.out.2.1)
    clear bb
    refine Q.wp_region_segs none [([0, 1, 2, 3, 4, 5, 6, 7, 8, 9, 10, 11, 12, 13, 14, 15, 16], some 17), ([], some 18), ([], none)] (by kernel_rfl) (by kernel_rfl) (by kernel_rfl) (by kernel_rfl) ?_
    dsimp only [Q.wpSegs, Q.picks, Q.pick]
    repeat (go_big_quiet_step (fail))
    refine wpQuiet_nil ?_
    clear q0 q1
    go_wp2_with fail
    have hb' : Below w1.drew.heap.size w1.drew (w1.drew.alloc (.cells #[.int .u64 0, .int .i64 0, .int .i64 0, .slice none 0 0] tR)) := (Below.refl _ _).alloc (Nat.le_refl _) _
    refine ev_keepN hb' (Nat.le_refl _) fun W6 hWs => ?_
    have hWn : W6 = w1.drew.alloc (.cells #[.int .u64 0, .int .i64 0, .int .i64 0, .slice none 0 0] tR) := hWs.trans rfl
    have H7 := Lib.hid (show W6.heap[w1.heap.size]? = some (.cells #[.int .u64 0, .int .i64 0, .int .i64 0, .slice none 0 0] tR (0, 0)) from hWn ▸ heap_alloc_new w1.drew _)
    have HX6 := Lib.hid (show W6.heap[w.heap.size]? = some (.cells #[.int .u64 0, .int .i64 0, .int .i64 0, .slice none 0 0] tR (0, 0)) from hWn ▸ blk_alloc (blk_drew HX1.out) _)
    have HB6 := Lib.hid (show Below w.heap.size w W6 from hWn ▸ (below_drew HB1.out).alloc HB1.out.size _)
    have HLt := Lib.hid (show w.heap.size < w1.heap.size from blk_lt HX1.out)
    clear hWs hWn hb' HX1 HB1
    refine wpQuiet_nil ?_
    have k0 := (blk_cell H7.out 0).trans rfl
    have k1 := (blk_cell H7.out 1).trans rfl
    have k2 := (blk_cell H7.out 2).trans rfl
    have k3 := (blk_cell H7.out 3).trans rfl
    have f0 := blk_frozen H7.out 0
    have f1 := blk_frozen H7.out 1
    have f2 := blk_frozen H7.out 2
    have f3 := blk_frozen H7.out 3
    go_wp2_with fail
    have hp := set4 H7.out (.int .u64 id) (.int .i64 x) (.int .i64 y) (.slice A' d.length c')
    refine ev_appN ⟨hp.2.os, hp.2.tape, hp.2.output, hp.2.size, fun i hi _ => hp.2.block i (by have := blk_lt H7.out; have : w1.drew.heap.size = w1.heap.size := rfl; omega) (fun e => by injection e with e; have : w1.drew.heap.size = w1.heap.size := rfl; omega)⟩ fun W7 hW7 => ?_
    rw [← hW7] at hp
    have H8 := Lib.hid hp.1
    have HX7 := Lib.hid ((hp.2.block w.heap.size (blk_lt HX6.out) (fun e => by injection e with e; have := HLt.out; omega)).trans HX6.out)
    have HB7 := Lib.hid (below_grown HB6.out HB6.out.size hp.2 (Nat.le_of_lt HLt.out))
    clear hp hW7 k0 k1 k2 k3 f0 f1 f2 f3 H7 HX6 HB6
    refine wpQuiet_nil ?_
    refine NoPanic.normal ?_
    have k0 := (blk_cell H8.out 0).trans rfl
    have k1 := (blk_cell H8.out 1).trans rfl
    have k2 := (blk_cell H8.out 2).trans rfl
    have k3 := (blk_cell H8.out 3).trans rfl
    go_wp2_with (go_at_call 28; refine (HQ.out _).mono ?_; rintro e w8 ⟨rfl, hb1⟩; (have HX8 := Lib.hid (blk_below HX7.out hb1)); (have H9 := Lib.hid (blk_below H8.out hb1)); (have HB8 := Lib.hid (HB7.out.trans (hb1.mono HB7.out.size))); clear hb1 HQ k0 k1 k2 k3; (have k0 := (blk_cell H9.out 0).trans rfl); (have k1 := (blk_cell H9.out 1).trans rfl); (have k2 := (blk_cell H9.out 2).trans rfl); (have k3 := (blk_cell H9.out 3).trans rfl); (have a0 := (blk_cell HX8.out 0).trans rfl); (have a1 := (blk_cell HX8.out 1).trans rfl); (have a2 := (blk_cell HX8.out 2).trans rfl); (have a3 := (blk_cell HX8.out 3).trans rfl); (have f0 := blk_frozen HX8.out 0); (have f1 := blk_frozen HX8.out 1); (have f2 := blk_frozen HX8.out 2); (have f3 := blk_frozen HX8.out 3))
    have hp := set4 HX8.out (.int .u64 id) (.int .i64 x) (.int .i64 y) (.slice A' d.length c')
    have hl := load4R hp.1
    exact bodyPost_ret (v := .tuple #[ptV (id, x, y, d) (.slice A' d.length c'), .int .i64 0]) (by simp [results, Try.results26, hl, asAddr, ptV]) rfl ⟨A', c', by rw [HR.out]; rfl, by rw [HR.out]; exact HC'.out, below_grown HB8.out HB8.out.size hp.2 (Nat.le_refl _)⟩
  | false =>
    rw [hr, if_neg (by decide)] at hR
    have HR := Lib.hid hR
    have hq := fun W => HRg.out W
    rw [hr] at hq
    have HQ := Lib.hid hq
    clear hR hq HRg hr
    go_enter Try.func26, Try.ntmps26
    go_upto_region 6 with (go_at_call 61; refine HG.out.mono ?_; rintro e w1 ⟨rfl, hb1⟩; (have HX1 := Lib.hid (blk_below HX.out hb1)); (have HB1 := Lib.hid (HW.out.trans (hb1.mono HW.out.size))); clear hb1 HG)
    have bb : b < w1.heap.size := Nat.lt_of_lt_of_le HQc.out.2.2 HB1.out.size
    have q0 := gw bb ((HB1.out.cell (p := ⟨b, off + q, none⟩) HQc.out.2.2).trans HQc.out.1)
    have q1 := gw bb ((HB1.out.cell (p := ⟨b, off + (q + 1), none⟩) HQc.out.2.2).trans HQc.out.2.1)
    clear bb
    refine Q.wp_region_segs none [([0, 1, 2, 3, 4, 5, 6, 7, 8, 9, 10, 11, 12, 13, 14, 15, 16], some 17), ([], some 18), ([], none)] (by kernel_rfl) (by kernel_rfl) (by kernel_rfl) (by kernel_rfl) ?_
    dsimp only [Q.wpSegs, Q.picks, Q.pick]
    repeat (go_big_quiet_step (fail))
    refine wpQuiet_nil ?_
    clear q0 q1
    go_wp2_with fail
    have hb' : Below w1.drew.heap.size w1.drew (w1.drew.alloc (.cells #[.int .u64 0, .int .i64 0, .int .i64 0, .slice none 0 0] tR)) := (Below.refl _ _).alloc (Nat.le_refl _) _
    refine ev_keepN hb' (Nat.le_refl _) fun W6 hWs => ?_
    have hWn : W6 = w1.drew.alloc (.cells #[.int .u64 0, .int .i64 0, .int .i64 0, .slice none 0 0] tR) := hWs.trans rfl
    have H7 := Lib.hid (show W6.heap[w1.heap.size]? = some (.cells #[.int .u64 0, .int .i64 0, .int .i64 0, .slice none 0 0] tR (0, 0)) from hWn ▸ heap_alloc_new w1.drew _)
    have HX6 := Lib.hid (show W6.heap[w.heap.size]? = some (.cells #[.int .u64 0, .int .i64 0, .int .i64 0, .slice none 0 0] tR (0, 0)) from hWn ▸ blk_alloc (blk_drew HX1.out) _)
    have HB6 := Lib.hid (show Below w.heap.size w W6 from hWn ▸ (below_drew HB1.out).alloc HB1.out.size _)
    have HLt := Lib.hid (show w.heap.size < w1.heap.size from blk_lt HX1.out)
    clear hWs hWn hb' HX1 HB1
    refine wpQuiet_nil ?_
    have k0 := (blk_cell H7.out 0).trans rfl
    have k1 := (blk_cell H7.out 1).trans rfl
    have k2 := (blk_cell H7.out 2).trans rfl
    have k3 := (blk_cell H7.out 3).trans rfl
    have f0 := blk_frozen H7.out 0
    have f1 := blk_frozen H7.out 1
    have f2 := blk_frozen H7.out 2
    have f3 := blk_frozen H7.out 3
    go_wp2_with fail
    have hp := set4 H7.out (.int .u64 id) (.int .i64 x) (.int .i64 y) (.slice A' d.length c')
    refine ev_appN ⟨hp.2.os, hp.2.tape, hp.2.output, hp.2.size, fun i hi _ => hp.2.block i (by have := blk_lt H7.out; have : w1.drew.heap.size = w1.heap.size := rfl; omega) (fun e => by injection e with e; have : w1.drew.heap.size = w1.heap.size := rfl; omega)⟩ fun W7 hW7 => ?_
    rw [← hW7] at hp
    have H8 := Lib.hid hp.1
    have HX7 := Lib.hid ((hp.2.block w.heap.size (blk_lt HX6.out) (fun e => by injection e with e; have := HLt.out; omega)).trans HX6.out)
    have HB7 := Lib.hid (below_grown HB6.out HB6.out.size hp.2 (Nat.le_of_lt HLt.out))
    clear hp hW7 k0 k1 k2 k3 f0 f1 f2 f3 H7 HX6 HB6
    refine wpQuiet_nil ?_
    refine NoPanic.normal ?_
    have k0 := (blk_cell H8.out 0).trans rfl
    have k1 := (blk_cell H8.out 1).trans rfl
    have k2 := (blk_cell H8.out 2).trans rfl
    have k3 := (blk_cell H8.out 3).trans rfl
    go_wp2_with (go_at_call 28; refine (HQ.out _).mono ?_; rintro e w8 ⟨rfl, hb1⟩; (have HX8 := Lib.hid (blk_below HX7.out hb1)); (have HB8 := Lib.hid (HB7.out.trans (hb1.mono HB7.out.size))); clear hb1 HQ k0 k1 k2 k3; (have a0 := (blk_cell HX8.out 0).trans rfl); (have a1 := (blk_cell HX8.out 1).trans rfl); (have a2 := (blk_cell HX8.out 2).trans rfl); (have a3 := (blk_cell HX8.out 3).trans rfl); (have f0 := blk_frozen HX8.out 0); (have f1 := blk_frozen HX8.out 1); (have f2 := blk_frozen HX8.out 2); (have f3 := blk_frozen HX8.out 3))
    have hp := set4 HX8.out (.int .u64 0) (.int .i64 0) (.int .i64 0) (.slice none 0 0)
    have hl := load4R hp.1
    exact bodyPost_ret (v := .tuple #[ptV zP (.slice none 0 0), .int .i64 3]) (by simp [results, Try.results26, hl, asAddr, ptV, zP]) rfl ⟨none, 0, by rw [HR.out]; rfl, by rw [HR.out]; exact Kd.C_nil _ _, below_grown HB8.out HB8.out.size hp.2 (Nat.le_refl _)⟩
end Go.Proofs.Ythgdbdhonhkkpaa.Fg
