/-
  frag: Read.
-/
import Derived.Test.YthgdbdhonhkkpaaGc
import Derived.Test.YthgdbdhonhkkpaaVp
import Derived.Test.YthgdbdhonhkkpaaNe
namespace Go.Proofs.Ythgdbdhonhkkpaa.Fg
open Go.RowKit Go.Proofs.Ythgdbdhonhkkpaa.L Go.Proofs.Ythgdbdhonhkkpaa.V Go.Proofs.Ythgdbdhonhkkpaa.N Go.Proofs.YthgdbdhonhkkpaaW.PrintWords

def readR (l : List Int) : Pt × Int :=
  if (dec l).2.2 ≠ 0 then (zP, (dec l).2.2)
  else if l.length < (dec l).2.1.toNat + 2 then (zP, 10)
  else if rightZ (dec l).1 (l.getD (dec l).2.1.toNat 0) (l.getD ((dec l).2.1.toNat + 1) 0) (l.length - ((dec l).2.1.toNat + 2)) then
    (((dec l).1, l.getD (dec l).2.1.toNat 0, l.getD ((dec l).2.1.toNat + 1) 0, l.drop ((dec l).2.1.toNat + 2)), 0) else (zP, 3)
theorem getR_zero (l : List Int) : getR l 0 = if (dec l).2.2 = 0 then ((dec l).1, (dec l).2.1, 0) else (0, 0, (dec l).2.2) := by
  unfold getR
  rw [if_neg (by omega), if_neg (by omega)]
  simp
/-- a part as a value, its data where they lie -/
def ptV (p : Pt) (v : Value) : Value := .agg #[.int .u64 p.1, .int .i64 p.2.1, .int .i64 p.2.2.1, v]
/-- s[lo:] -/
theorem cutI (A : Option Addr) (n c : Nat) (lo : Int) (m : Nat) (h0 : lo = m) (h1 : m ≤ n) (hc : n ≤ c) :
    ∃ A' c', (∀ W : World, (Instr.slice 23 (.slice A n c) (some (.int .i64 lo)) none none).run Try.prog W = .ok (.slice A' (n - m) c') W) ∧ n - m ≤ c' ∧
      ∀ (W : World) (l : List Int), l.length = n → (Kd.int .u8).C W A l.length l → (Kd.int .u8).C W A' (n - m) (l.drop m) := by
  subst h0
  obtain ⟨i0, hi0, hz0⟩ := info_of S.info_u8
  refine ⟨_, _, fun W => (cut_from 23 5 .i64 Try.underlying23 hi0 1 hz0 A n c m (by omega) (by omega) W).trans (by rw [Int.toNat_natCast]), by omega, ?_⟩
  intro W l hl hC
  have h := Kd.C_mid (xs := l) (lo := m) (hi := n) (c := c) hC (by omega) (by omega) (by omega)
  have hlen : (l.drop m).length = n - m := by rw [List.length_drop]; omega
  rw [List.take_of_length_le (by omega), hlen] at h
  exact h
section
variable {w : World} {b : Nat} {t : TypeId} {a0 a1 a2 a3 : Value}
theorem set4 (h : w.heap[b]? = some (.cells #[a0, a1, a2, a3] t (0, 0))) (x0 x1 x2 x3 : Value) :
    ((((w.setCell ⟨b, 0, none⟩ x0).setCell ⟨b, 1, none⟩ x1).setCell ⟨b, 2, none⟩ x2).setCell ⟨b, 3, none⟩ x3).heap[b]? = some (.cells #[x0, x1, x2, x3] t (0, 0)) ∧
    w.grownBy ((((w.setCell ⟨b, 0, none⟩ x0).setCell ⟨b, 1, none⟩ x1).setCell ⟨b, 2, none⟩ x2).setCell ⟨b, 3, none⟩ x3) (some b) :=
  ⟨blk_set (blk_set (blk_set (blk_set h 0 x0) 1 x1) 2 x2) 3 x3, (((grown_set _ _ _ _).trans (grown_set _ _ _ _)).trans (grown_set _ _ _ _)).trans (grown_set _ _ _ _)⟩
theorem ev_keepN {W w1 : World} {B : Nat} {row : Option Nat} {K : Nat → Option Nat → Act → World → Prop} {Q' : Exit → Act → World → Prop} {a : Act} (h : Below W.heap.size W w1) (hB : B ≤ W.heap.size) (k : ∀ w', w' = w1 → K B row a w') :
    Q.EvQ (Q.Gr B row W) (Q.Goes K B row) Q' .normal a w1 := Q.ev_keep h hB (k _ rfl)
theorem ev_appN {W w1 : World} {B : Nat} {row : Option Nat} {K : Nat → Option Nat → Act → World → Prop} {Q' : Exit → Act → World → Prop} {a : Act} (h : Q.Gr B row W w1) (k : ∀ w', w' = w1 → K B row a w') :
    Q.EvQ (Q.Gr B row W) (Q.Goes K B row) Q' .normal a w1 := Q.ev_app h (Nat.le_refl _) (Q.NewRow.self _ _) (k _ rfl)
theorem load4 (h : w.heap[b]? = some (.cells #[a0, a1, a2, a3] 38 (0, 0))) : (loadVar 38 ⟨b, 0, none⟩).run Try.prog w = .ok (.agg #[a0, a1, a2, a3]) w :=
  run_loadVar_row _ _ _ _ _ _ _ h Try.underlying38 rfl (by kernel_rfl)
end
set_option maxRecDepth 100000 in
set_option maxHeartbeats 1600000 in
theorem read_any (l : List Int) (A : Option Addr) (c : Nat) (w : World) (hC : (Kd.int .u8).C w A l.length l) (hc : l.length ≤ c) (hb : okB l) (hsz : l.length ≤ 140737488355328) :
    Calls Try.prog 25 #[.slice A l.length c] w fun e w' => ∃ v, e = .returned (.tuple #[ptV (readR l).1 v, .int .i64 (readR l).2]) ∧ (Kd.int .u8).R 5 w' w.heap.size (fun _ => True) v (readR l).1.2.2.2 ∧ Below w.heap.size w w' := by
  have hmx := Kd.C_max hC
  have hW : Below w.heap.size w (w.alloc (.cells #[.int .u64 0, .int .i64 0, .int .i64 0, .slice none 0 0] 38)) := (Below.refl _ _).alloc (Nat.le_refl _) _
  have hq := get_any l A c 0 _ (Kd.C_below hC hW) hc hb
  rw [getR_zero] at hq
  have hX := heap_alloc_new w (.cells #[.int .u64 0, .int .i64 0, .int .i64 0, .slice none 0 0] 38)
  have HX := Lib.hid hX
  have HW := Lib.hid hW
  by_cases he : (dec l).2.2 = 0
  · have hdl := dec_len l he
    have hR : readR l = if l.length < (dec l).2.1.toNat + 2 then (zP, 10) else if rightZ (dec l).1 (l.getD (dec l).2.1.toNat 0) (l.getD ((dec l).2.1.toNat + 1) 0) (l.length - ((dec l).2.1.toNat + 2)) then (((dec l).1, l.getD (dec l).2.1.toNat 0, l.getD ((dec l).2.1.toNat + 1) 0, l.drop ((dec l).2.1.toNat + 2)), 0) else (zP, 3) := if_neg (fun h => h he)
    rw [if_pos he] at hq
    obtain ⟨q, hq1⟩ : ∃ q : Nat, (dec l).2.1 = (q : Int) := ⟨_, (Int.toNat_of_nonneg (by omega)).symm⟩
    rw [hq1] at hq hdl hR
    rw [Int.toNat_natCast] at hR
    obtain ⟨id, hid⟩ : ∃ id, (dec l).1 = id := ⟨_, rfl⟩
    rw [hid] at hq hR
    simp only [getV] at hq
    have HQ := Lib.hid hq
    have HC := Lib.hid hC
    have Hb8 := Lib.hid hb
    have z1 : (q : Int) ≤ (l.length : Int) := by omega
    have z2 : (1 : Int) ≤ (q : Int) := by omega
    clear hq he hC hb hW hX hdl hq1 hid
    by_cases hs : l.length < q + 2
    · rw [if_pos hs] at hR
      rw [hR]
      have t1 : decide ((l.length : Int) - (q : Int) < 2) = true := decide_eq_true (by omega)
      clear hR hs hc
      go_enter Try.func25, Try.ntmps25
      go_wp2_with (go_at_call 60; refine HQ.out.mono ?_; rintro e W2 ⟨rfl, hb2⟩; (have HX2 := Lib.hid (blk_below HX.out hb2)); (have HB2 := Lib.hid (HW.out.trans (hb2.mono HW.out.size))); clear hb2 HQ HX; (have k0 := (blk_cell HX2.out 0).trans rfl); (have k1 := (blk_cell HX2.out 1).trans rfl); (have k2 := (blk_cell HX2.out 2).trans rfl); (have k3 := (blk_cell HX2.out 3).trans rfl); (have f0 := blk_frozen HX2.out 0); (have f1 := blk_frozen HX2.out 1); (have f2 := blk_frozen HX2.out 2); (have f3 := blk_frozen HX2.out 3))
      have hpb := set4 HX2.out (.int .u64 0) (.int .i64 0) (.int .i64 0) (.slice none 0 0)
      have hl := load4 hpb.1
      exact bodyPost_ret (v := .tuple #[ptV zP (.slice none 0 0), .int .i64 10]) (by simp [results, Try.results25, hl, asAddr, ptV, zP]) rfl ⟨_, rfl, Kd.R_nil _ _ _ _ _, below_grown HB2.out HB2.out.size hpb.2 (Nat.le_refl _)⟩
    · rw [if_neg hs] at hR
      have t1 : decide ((l.length : Int) - (q : Int) < 2) = false := decide_eq_false (by omega)
      have z3 : (q : Int) + 2 ≤ (l.length : Int) := by omega
      obtain ⟨A3, c3, hcf, hc3, hCf⟩ := cutI A l.length c ((q : Int) + 2) (q + 2) (by omega) (by omega) hc
      have HCf := Lib.hid hCf
      have HC3 := Lib.hid hc3
      have b1 := Hb8.out.at_ q
      have b2 := Hb8.out.at_ (q + 1)
      have hop := (L.C_open HC.out).2.resolve_left (fun h => by rw [h] at hs; simp at hs)
      obtain ⟨x, hx⟩ : ∃ x, l.getD q 0 = x := ⟨_, rfl⟩
      obtain ⟨y, hy⟩ : ∃ y, l.getD (q + 1) 0 = y := ⟨_, rfl⟩
      obtain ⟨bo, off, rfl, hbo, hcells⟩ := hop
      have c0 := hcells q (by omega)
      have c1 := hcells (q + 1) (by omega)
      rw [hx] at c0 b1 hR
      rw [hy] at c1 b2 hR
      have Hc0 := Lib.hid c0
      have Hc1 := Lib.hid c1
      have HBo := Lib.hid hbo
      obtain ⟨b1a, b1b⟩ := b1
      obtain ⟨b2a, b2b⟩ := b2
      have HDl := Lib.hid (show (l.drop (q + 2)).length = l.length - (q + 2) from List.length_drop)
      obtain ⟨d, hd⟩ : ∃ d, l.drop (q + 2) = d := ⟨_, rfl⟩
      rw [hd] at hR HDl
      have Hd := Lib.hid hd
      have HR := Lib.hid hR
      clear hc hs hR hcells c0 c1 hbo hx hy hd hCf hc3
      go_enter Try.func25, Try.ntmps25
      go_wp2_with (go_at_call 60; refine HQ.out.mono ?_; rintro e W2 ⟨rfl, hb2⟩; (have HX2 := Lib.hid (blk_below HX.out hb2)); (have HB2 := Lib.hid (HW.out.trans (hb2.mono HW.out.size))); clear hb2 HQ HX; (have k0 := (blk_cell HX2.out 0).trans rfl); (have k1 := (blk_cell HX2.out 1).trans rfl); (have k2 := (blk_cell HX2.out 2).trans rfl); (have k3 := (blk_cell HX2.out 3).trans rfl); (have f0 := blk_frozen HX2.out 0); (have f1 := blk_frozen HX2.out 1); (have f2 := blk_frozen HX2.out 2); (have f3 := blk_frozen HX2.out 3))
      have x0 := gw (w := W2) (Nat.lt_of_lt_of_le HBo.out HB2.out.size) ((HB2.out.cell (p := ⟨bo, off + q, none⟩) HBo.out).trans Hc0.out)
      have x1 := gw (w := W2) (Nat.lt_of_lt_of_le HBo.out HB2.out.size) ((HB2.out.cell (p := ⟨bo, off + (q + 1), none⟩) HBo.out).trans Hc1.out)
      clear k0 k1 k2 k3 f0 f1 f2 f3
      refine Q.wp_region_tr none (.two [0, 1, 2, 3, 4, 5, 6, 7, 8, 9, 10, 11, 12, 13, 14, 15] 16 (.ev [17] 18 (.ev [] 19 (.done []))) 18 (.ev [] 16 (.ev [17] 19 (.done [])))) (by kernel_rfl) (by kernel_rfl) (by kernel_rfl) (by kernel_rfl) ?_
      dsimp only [Q.wpTr, Q.picks, Q.pick]
      repeat (go_big_quiet_step (fail))
      refine wpQuiet_nil ?_
      clear x0 x1
      have HB2d := Lib.hid (HB2.out.drew)
      refine ⟨?_, ?_⟩
      · have hcl := S.clone_n d (l.length - (q + 2)) HDl.out A3 c3 W2.drew (by have h := HCf.out W2.drew l rfl (Kd.C_below HC.out HB2d.out); rw [Hd.out] at h; exact h) (by omega)
        have HCl := Lib.hid hcl
        clear hcl
        go_wp2_with (go_at_call 56; refine HCl.out.mono ?_; rintro e W3 ⟨v0, rfl, hv0, hbc⟩; obtain ⟨A0, c0, rfl⟩ := Kd.R_slice hv0; (have HV0 := Lib.hid hv0); (have HBc := Lib.hid hbc); clear hv0 hbc HCl)
        refine Q.ev_keep HBc.out (Nat.le_refl _) ?_
        have HB3 := Lib.hid (HB2d.out.trans (HBc.out.mono HB2.out.size))
        have HX3 := Lib.hid ((HBc.out.block w.heap.size (blk_lt HX2.out)).trans HX2.out)
        have HV3 := Lib.hid (Kd.R_lower HV0.out (show w.heap.size ≤ W2.drew.heap.size from HB2.out.size))
        have HS3 := Lib.hid (show W2.heap.size ≤ W3.heap.size from HBc.out.size)
        clear HBc HV0
        repeat (go_big_quiet_step (fail))
        refine wpQuiet_nil ?_
        go_wp2_with fail
        have hb' : Below W3.heap.size W3 (W3.alloc (.cells #[.int .u64 0, .int .i64 0, .int .i64 0, .slice none 0 0] 38)) := (Below.refl _ _).alloc (Nat.le_refl _) _
        have h7 := heap_alloc_new W3 (.cells #[.int .u64 0, .int .i64 0, .int .i64 0, .slice none 0 0] 38)
        refine ev_keepN hb' HS3.out fun W4 hWs => ?_
        have hWn : W3.alloc (.cells #[.int .u64 0, .int .i64 0, .int .i64 0, .slice none 0 0] 38) = W4 := (hWs.trans rfl).symm
        clear hWs
        obtain ⟨g7, hg7⟩ : ∃ g, W3.heap.size = g := ⟨_, rfl⟩
        have hlt7 : w.heap.size < g7 := by rw [← hg7]; have := blk_lt HX2.out; have := HS3.out; omega
        have hle7 : W2.heap.size ≤ g7 := by rw [← hg7]; exact HS3.out
        rw [hWn] at h7 hb'
        have hg7' : W3.heap.size = g7 := hg7
        rw [hg7] at h7
        simp only [hg7'] 
        have HBn := Lib.hid hb'
        have H7 := Lib.hid h7
        have HLt := Lib.hid hlt7
        have HLe := Lib.hid hle7
        have HEq := Lib.hid hg7'
        clear hb' hWn hg7 hg7' h7 hlt7 hle7
        have HB4 := Lib.hid (HB3.out.trans (HBn.out.mono HB3.out.size))
        have HX4 := Lib.hid (blk_below HX3.out HBn.out)
        have HV4 := Lib.hid (Kd.R_below HV3.out HBn.out)
        clear HBn HB3 HX3 HV3
        refine wpQuiet_nil ?_
        have k0 := (blk_cell H7.out 0).trans rfl
        have k1 := (blk_cell H7.out 1).trans rfl
        have k2 := (blk_cell H7.out 2).trans rfl
        have k3 := (blk_cell H7.out 3).trans rfl
        have f0 := blk_frozen H7.out 0
        have f1 := blk_frozen H7.out 1
        have f2 := blk_frozen H7.out 2
        have f3 := blk_frozen H7.out 3
        go_wp2_with fail
        have hp := set4 H7.out (.int .u64 id) (.int .i64 x) (.int .i64 y) (.slice A0 d.length c0)
        refine ev_appN ⟨hp.2.os, hp.2.tape, hp.2.output, hp.2.size, fun i hi _ => hp.2.block i (by have := blk_lt H7.out; have := HLe.out; omega) (fun e => by injection e with e; have := HLe.out; omega)⟩ fun W5 hW5 => ?_
        rw [← hW5] at hp
        have HP := Lib.hid hp.1
        have HX5 := Lib.hid ((hp.2.block w.heap.size (blk_lt HX4.out) (fun e => by injection e with e; have := HLt.out; omega)).trans HX4.out)
        have HB5 := Lib.hid (below_grown HB4.out HB4.out.size hp.2 (by have := HLt.out; omega))
        have HV5 := Lib.hid (R_obj HV4.out H7.out (by intro q' hq'; simp [show (Kd.int .u8).E = [] from rfl] at hq'; subst hq'; decide) hp.2)
        clear hp hW5 k0 k1 k2 k3 f0 f1 f2 f3 H7 HX4 HB4 HV4 HLt HLe
        refine wpQuiet_nil ?_
        refine NoPanic.normal ?_
        have p0 := (blk_cell HP.out 0).trans rfl
        have p1 := (blk_cell HP.out 1).trans rfl
        have p2 := (blk_cell HP.out 2).trans rfl
        have p3 := (blk_cell HP.out 3).trans rfl
        have hr := right_any id x y A0 d.length c0 W5
        obtain ⟨r, hrr⟩ : ∃ r, rightZ id x y d.length = r := ⟨_, rfl⟩
        have hR := HR.out
        rw [← HDl.out] at hR
        rw [hrr] at hr hR
        have HRt := Lib.hid (show (Calls _ _ _ _ _) from hr)
        clear hr hrr
        cases r with
        | false =>
          rw [if_neg (by decide)] at hR
          have HRe := Lib.hid hR
          clear hR HR
          go_wp2_with (go_at_call 27; refine HRt.out.mono ?_; rintro e W6 ⟨rfl, hb6⟩; (have HX6 := Lib.hid (blk_below HX5.out hb6)); (have HB6 := Lib.hid (HB5.out.trans (hb6.mono HB5.out.size))); clear hb6 HRt p0 p1 p2 p3; (have k0 := (blk_cell HX6.out 0).trans rfl); (have k1 := (blk_cell HX6.out 1).trans rfl); (have k2 := (blk_cell HX6.out 2).trans rfl); (have k3 := (blk_cell HX6.out 3).trans rfl); (have f0 := blk_frozen HX6.out 0); (have f1 := blk_frozen HX6.out 1); (have f2 := blk_frozen HX6.out 2); (have f3 := blk_frozen HX6.out 3))
          have hpb := set4 HX6.out (.int .u64 0) (.int .i64 0) (.int .i64 0) (.slice none 0 0)
          have hl := load4 hpb.1
          exact bodyPost_ret (v := .tuple #[ptV zP (.slice none 0 0), .int .i64 3]) (by simp [results, Try.results25, hl, asAddr, ptV, zP]) rfl ⟨_, by rw [HRe.out], by rw [HRe.out]; exact Kd.R_nil _ _ _ _ _, below_grown HB6.out HB6.out.size hpb.2 (Nat.le_refl _)⟩
        | true =>
          rw [if_pos rfl] at hR
          have HRe := Lib.hid hR
          clear hR HR
          go_wp2_with (go_at_call 27; refine HRt.out.mono ?_; rintro e W6 ⟨rfl, hb6⟩; (have HX6 := Lib.hid (blk_below HX5.out hb6)); (have HP6 := Lib.hid (blk_below HP.out hb6)); (have HB6 := Lib.hid (HB5.out.trans (hb6.mono HB5.out.size))); (have HV6 := Lib.hid (Kd.R_below HV5.out hb6)); clear hb6 HRt p0 p1 p2 p3; (have p0 := (blk_cell HP6.out 0).trans rfl); (have p1 := (blk_cell HP6.out 1).trans rfl); (have p2 := (blk_cell HP6.out 2).trans rfl); (have p3 := (blk_cell HP6.out 3).trans rfl); (have k0 := (blk_cell HX6.out 0).trans rfl); (have k1 := (blk_cell HX6.out 1).trans rfl); (have k2 := (blk_cell HX6.out 2).trans rfl); (have k3 := (blk_cell HX6.out 3).trans rfl); (have f0 := blk_frozen HX6.out 0); (have f1 := blk_frozen HX6.out 1); (have f2 := blk_frozen HX6.out 2); (have f3 := blk_frozen HX6.out 3))
          have hpb := set4 HX6.out (.int .u64 id) (.int .i64 x) (.int .i64 y) (.slice A0 d.length c0)
          have hl := load4 hpb.1
          exact bodyPost_ret (v := .tuple #[ptV (id, x, y, d) (.slice A0 d.length c0), .int .i64 0]) (by simp [results, Try.results25, hl, asAddr, ptV]) rfl ⟨_, by rw [HRe.out], by rw [HRe.out]; exact R_obj HV6.out HX6.out (by intro q' hq'; simp [show (Kd.int .u8).E = [] from rfl] at hq'; subst hq'; decide) hpb.2, below_grown HB6.out HB6.out.size hpb.2 (Nat.le_refl _)⟩
      · go_wp2_with fail
        have hb' : Below W2.drew.heap.size W2.drew (W2.drew.alloc (.cells #[.int .u64 0, .int .i64 0, .int .i64 0, .slice none 0 0] 38)) := (Below.refl _ _).alloc (Nat.le_refl _) _
        have h7 := heap_alloc_new W2.drew (.cells #[.int .u64 0, .int .i64 0, .int .i64 0, .slice none 0 0] 38)
        refine ev_keepN hb' (Nat.le_refl _) fun W3 hWs => ?_
        have hWn : W2.drew.alloc (.cells #[.int .u64 0, .int .i64 0, .int .i64 0, .slice none 0 0] 38) = W3 := (hWs.trans rfl).symm
        clear hWs
        obtain ⟨g7, hg7⟩ : ∃ g, W2.drew.heap.size = g := ⟨_, rfl⟩
        have hlt7 : w.heap.size < g7 := by rw [← hg7]; have := blk_lt HX2.out; exact this
        have hle7 : W2.heap.size ≤ g7 := by rw [← hg7]; exact Nat.le_refl _
        rw [hWn] at h7 hb'
        have hg7' : W2.heap.size = g7 := hg7
        rw [hg7] at h7
        simp only [hg7'] 
        have HBn := Lib.hid hb'
        have H7 := Lib.hid h7
        have HLt := Lib.hid hlt7
        have HLe := Lib.hid hle7
        have HEq := Lib.hid hg7'
        clear hb' hWn hg7 hg7' h7 hlt7 hle7
        have HB3 := Lib.hid (HB2d.out.trans (HBn.out.mono HB2.out.size))
        have HX3 := Lib.hid (blk_below (w := W2.drew) HX2.out HBn.out)
        have HS3 := Lib.hid (show W2.heap.size ≤ W3.heap.size from HBn.out.size)
        clear HBn
        refine wpQuiet_nil ?_
        have hcl := S.clone_n d (l.length - (q + 2)) HDl.out A3 c3 W3 (by have h := HCf.out W3 l rfl (Kd.C_below HC.out HB3.out); rw [Hd.out] at h; exact h) (by omega)
        have HCl := Lib.hid hcl
        clear hcl
        go_wp2_with (go_at_call 56; refine HCl.out.mono ?_; rintro e W4 ⟨v0, rfl, hv0, hbc⟩; obtain ⟨A0, c0, rfl⟩ := Kd.R_slice hv0; (have HV0 := Lib.hid hv0); (have HBc := Lib.hid hbc); clear hv0 hbc HCl)
        refine Q.ev_keep HBc.out (by have := HS3.out; have := HEq.out; omega) ?_
        have HB4 := Lib.hid (HB3.out.trans (HBc.out.mono HB3.out.size))
        have HX4 := Lib.hid (blk_below HX3.out HBc.out)
        have HV4 := Lib.hid (Kd.R_lower HV0.out (show w.heap.size ≤ W3.heap.size from HB3.out.size))
        have H7a := Lib.hid (blk_below H7.out HBc.out)
        clear H7 HBc HV0 HB3 HX3
        have H7 := H7a
        clear H7a
        repeat (go_big_quiet_step (fail))
        refine wpQuiet_nil ?_
        have k0 := (blk_cell H7.out 0).trans rfl
        have k1 := (blk_cell H7.out 1).trans rfl
        have k2 := (blk_cell H7.out 2).trans rfl
        have k3 := (blk_cell H7.out 3).trans rfl
        have f0 := blk_frozen H7.out 0
        have f1 := blk_frozen H7.out 1
        have f2 := blk_frozen H7.out 2
        have f3 := blk_frozen H7.out 3
        go_wp2_with fail
        have hp := set4 H7.out (.int .u64 id) (.int .i64 x) (.int .i64 y) (.slice A0 d.length c0)
        refine ev_appN ⟨hp.2.os, hp.2.tape, hp.2.output, hp.2.size, fun i hi _ => hp.2.block i (by have := blk_lt H7.out; have := HLe.out; omega) (fun e => by injection e with e; have := HLe.out; omega)⟩ fun W5 hW5 => ?_
        rw [← hW5] at hp
        have HP := Lib.hid hp.1
        have HX5 := Lib.hid ((hp.2.block w.heap.size (blk_lt HX4.out) (fun e => by injection e with e; have := HLt.out; omega)).trans HX4.out)
        have HB5 := Lib.hid (below_grown HB4.out HB4.out.size hp.2 (by have := HLt.out; omega))
        have HV5 := Lib.hid (R_obj HV4.out H7.out (by intro q' hq'; simp [show (Kd.int .u8).E = [] from rfl] at hq'; subst hq'; decide) hp.2)
        clear hp hW5 k0 k1 k2 k3 f0 f1 f2 f3 H7 HX4 HB4 HV4 HLt HLe
        refine wpQuiet_nil ?_
        refine NoPanic.normal ?_
        have p0 := (blk_cell HP.out 0).trans rfl
        have p1 := (blk_cell HP.out 1).trans rfl
        have p2 := (blk_cell HP.out 2).trans rfl
        have p3 := (blk_cell HP.out 3).trans rfl
        have hr := right_any id x y A0 d.length c0 W5
        obtain ⟨r, hrr⟩ : ∃ r, rightZ id x y d.length = r := ⟨_, rfl⟩
        have hR := HR.out
        rw [← HDl.out] at hR
        rw [hrr] at hr hR
        have HRt := Lib.hid (show (Calls _ _ _ _ _) from hr)
        clear hr hrr
        cases r with
        | false =>
          rw [if_neg (by decide)] at hR
          have HRe := Lib.hid hR
          clear hR HR
          go_wp2_with (go_at_call 27; refine HRt.out.mono ?_; rintro e W6 ⟨rfl, hb6⟩; (have HX6 := Lib.hid (blk_below HX5.out hb6)); (have HB6 := Lib.hid (HB5.out.trans (hb6.mono HB5.out.size))); clear hb6 HRt p0 p1 p2 p3; (have k0 := (blk_cell HX6.out 0).trans rfl); (have k1 := (blk_cell HX6.out 1).trans rfl); (have k2 := (blk_cell HX6.out 2).trans rfl); (have k3 := (blk_cell HX6.out 3).trans rfl); (have f0 := blk_frozen HX6.out 0); (have f1 := blk_frozen HX6.out 1); (have f2 := blk_frozen HX6.out 2); (have f3 := blk_frozen HX6.out 3))
          have hpb := set4 HX6.out (.int .u64 0) (.int .i64 0) (.int .i64 0) (.slice none 0 0)
          have hl := load4 hpb.1
          exact bodyPost_ret (v := .tuple #[ptV zP (.slice none 0 0), .int .i64 3]) (by simp [results, Try.results25, hl, asAddr, ptV, zP]) rfl ⟨_, by rw [HRe.out], by rw [HRe.out]; exact Kd.R_nil _ _ _ _ _, below_grown HB6.out HB6.out.size hpb.2 (Nat.le_refl _)⟩
        | true =>
          rw [if_pos rfl] at hR
          have HRe := Lib.hid hR
          clear hR HR
          go_wp2_with (go_at_call 27; refine HRt.out.mono ?_; rintro e W6 ⟨rfl, hb6⟩; (have HX6 := Lib.hid (blk_below HX5.out hb6)); (have HP6 := Lib.hid (blk_below HP.out hb6)); (have HB6 := Lib.hid (HB5.out.trans (hb6.mono HB5.out.size))); (have HV6 := Lib.hid (Kd.R_below HV5.out hb6)); clear hb6 HRt p0 p1 p2 p3; (have p0 := (blk_cell HP6.out 0).trans rfl); (have p1 := (blk_cell HP6.out 1).trans rfl); (have p2 := (blk_cell HP6.out 2).trans rfl); (have p3 := (blk_cell HP6.out 3).trans rfl); (have k0 := (blk_cell HX6.out 0).trans rfl); (have k1 := (blk_cell HX6.out 1).trans rfl); (have k2 := (blk_cell HX6.out 2).trans rfl); (have k3 := (blk_cell HX6.out 3).trans rfl); (have f0 := blk_frozen HX6.out 0); (have f1 := blk_frozen HX6.out 1); (have f2 := blk_frozen HX6.out 2); (have f3 := blk_frozen HX6.out 3))
          have hpb := set4 HX6.out (.int .u64 id) (.int .i64 x) (.int .i64 y) (.slice A0 d.length c0)
          have hl := load4 hpb.1
          exact bodyPost_ret (v := .tuple #[ptV (id, x, y, d) (.slice A0 d.length c0), .int .i64 0]) (by simp [results, Try.results25, hl, asAddr, ptV]) rfl ⟨_, by rw [HRe.out], by rw [HRe.out]; exact R_obj HV6.out HX6.out (by intro q' hq'; simp [show (Kd.int .u8).E = [] from rfl] at hq'; subst hq'; decide) hpb.2, below_grown HB6.out HB6.out.size hpb.2 (Nat.le_refl _)⟩
  · rw [if_neg he] at hq
    have hR : readR l = (zP, (dec l).2.2) := if_pos he
    rw [hR]
    obtain ⟨er, her⟩ : ∃ er, (dec l).2.2 = er := ⟨_, rfl⟩
    rw [her] at hq he ⊢
    have t0 : (er == 0) = false := by rw [beq_eq_false_iff_ne]; exact he
    have t0n : (er != 0) = true := by rw [bne, t0]; rfl
    simp only [getV] at hq
    have HQ := Lib.hid hq
    clear hq hR her he hC hc hb hW hX
    go_enter Try.func25, Try.ntmps25
    go_wp2_with (go_at_call 60; refine HQ.out.mono ?_; rintro e W2 ⟨rfl, hb2⟩; (have HX2 := Lib.hid (blk_below HX.out hb2)); (have HB2 := Lib.hid (HW.out.trans (hb2.mono HW.out.size))); clear hb2 HQ HX; (have k0 := (blk_cell HX2.out 0).trans rfl); (have k1 := (blk_cell HX2.out 1).trans rfl); (have k2 := (blk_cell HX2.out 2).trans rfl); (have k3 := (blk_cell HX2.out 3).trans rfl); (have f0 := blk_frozen HX2.out 0); (have f1 := blk_frozen HX2.out 1); (have f2 := blk_frozen HX2.out 2); (have f3 := blk_frozen HX2.out 3))
    have hpb := set4 HX2.out (.int .u64 0) (.int .i64 0) (.int .i64 0) (.slice none 0 0)
    have hl := load4 hpb.1
    exact bodyPost_ret (v := .tuple #[ptV zP (.slice none 0 0), .int .i64 er]) (by simp [results, Try.results25, hl, asAddr, ptV, zP]) rfl ⟨_, rfl, Kd.R_nil _ _ _ _ _, below_grown HB2.out HB2.out.size hpb.2 (Nat.le_refl _)⟩
end Go.Proofs.Ythgdbdhonhkkpaa.Fg
