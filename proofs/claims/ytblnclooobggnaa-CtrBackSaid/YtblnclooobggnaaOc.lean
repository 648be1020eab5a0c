/-
  ctr: At, Hide.
-/
import Derived.Test.YtblnclooobggnaaOb
import Derived.Test.YtblnclooobggnaaAw
namespace Go.Proofs.Ytblnclooobggnaa.A
open Go.RowKit Go.Proofs.Ytblnclooobggnaa.L Go.Proofs.Ytblnclooobggnaa.N Go.Proofs.YtblnclooobggnaaW.PrintWords

abbrev tU8 : TypeId := 5
/-- bytes in the middle of a block of bytes that is one's own -/
def RW (b off : Nat) (l : List Nat) (w : World) : Prop := ∃ cs : Array Value, w.heap[b]? = some (.cells cs tU8 (0, 0)) ∧ ∀ j, j < l.length → cs[off + j]? = some (.int .u8 (l.getD j 0 : Nat))
theorem RW.lt {b off : Nat} {l : List Nat} {w : World} (h : RW b off l w) : b < w.heap.size := by
  obtain ⟨cs, h, _⟩ := h
  exact blk_lt h
theorem RW.cell {b off : Nat} {l : List Nat} {w : World} (h : RW b off l w) {j : Nat} (hj : j < l.length) : w.cell? ⟨b, off + j, none⟩ = some (.int .u8 (l.getD j 0 : Nat)) := by
  obtain ⟨cs, h, hc⟩ := h
  rw [blk_cell h]
  exact hc j hj
theorem RW.fz {b off : Nat} {l : List Nat} {w : World} (h : RW b off l w) (i : Nat) : w.frozen? ⟨b, i, none⟩ = false := by
  obtain ⟨cs, h, _⟩ := h
  exact blk_frozen h i
theorem RW.keep {b off : Nat} {l : List Nat} {w w1 : World} (h : RW b off l w) (hm : w1.heap[b]? = w.heap[b]?) : RW b off l w1 := by
  obtain ⟨cs, h, hc⟩ := h
  exact ⟨cs, hm.trans h, hc⟩
theorem RW.below {b off : Nat} {l : List Nat} {w w1 : World} (h : RW b off l w) (hb : Below w.heap.size w w1) : RW b off l w1 := h.keep (hb.block b h.lt)
theorem RW.grown {b off c : Nat} {l : List Nat} {w w1 : World} (h : RW b off l w) (hg : w.grownBy w1 (some c)) (hne : b ≠ c) : RW b off l w1 := h.keep (hg.block b h.lt (fun e => hne (by injection e)))
theorem RW.set {b off : Nat} {l : List Nat} {w : World} (h : RW b off l w) {i : Nat} (hi : i < l.length) (x : Nat) : RW b off (l.set i x) (w.setCell ⟨b, off + i, none⟩ (.int .u8 (x : Nat))) := by
  obtain ⟨cs, h, hc⟩ := h
  refine ⟨_, blk_set h (off + i) _, fun j hj => ?_⟩
  rw [List.length_set] at hj
  by_cases e : i = j
  · subst e
    have := hc i hj
    have hlt : off + i < cs.size := (Array.getElem?_eq_some_iff.1 this).1
    simp [Array.getElem?_setIfInBounds, hlt, List.getD_eq_getElem?_getD, List.getElem?_set, hj]
  · rw [Array.getElem?_setIfInBounds_ne (by omega), hc j hj, List.getD_eq_getElem?_getD, List.getD_eq_getElem?_getD, List.getElem?_set_ne e]
theorem RW.C {b off : Nat} {l : List Nat} {w : World} (h : RW b off l w) (hl : l.length ≤ 9223372036854775807) : (Kd.int .u8).C w (some ⟨b, off, none⟩) l.length (nat l) := by
  refine Kd.C_of_reads (d := (0 : Int)) ⟨nat_length l, hl, fun _ => ⟨_, rfl, fun j hj => ?_⟩⟩
  rw [add_at, h.cell hj, nat_get hj]
/-- what At and Hide give -/
def RV (l : List Nat) (base : Nat) (v : Value) (w : World) : Prop := (l = [] ∧ v = .slice none 0 0) ∨ ∃ b off, v = .slice (some ⟨b, off, none⟩) l.length l.length ∧ base ≤ b ∧ RW b off l w ∧ l.length ≤ 9223372036854775807
theorem RV.open {l : List Nat} {base : Nat} {v : Value} {w : World} (h : RV l base v w) : ∃ A c, v = .slice A l.length c ∧ l.length ≤ c ∧ (Kd.int .u8).C w A l.length (nat l) ∧ ∀ ad, A = some ad → base ≤ ad.block := by
  rcases h with ⟨rfl, rfl⟩ | ⟨b, off, rfl, hb, hw, hl⟩
  · exact ⟨none, 0, rfl, Nat.le_refl _, C_none w, fun _ h => by cases h⟩
  · exact ⟨_, _, rfl, Nat.le_refl _, hw.C hl, fun ad e => by injection e with e; subst e; exact hb⟩
theorem cut3b (b n c lo up : Nat) (h1 : lo < up) (h2 : up ≤ n) (hc : n ≤ c) (W : World) : (Instr.slice 41 (.slice (some ⟨b, 0, none⟩) n c) (some (.int .i64 (lo : Int))) (some (.int .i64 (up : Int))) (some (.int .i64 (up : Int)))).run Try.prog W = .ok (.slice (some ⟨b, lo, none⟩) (up - lo) (up - lo)) W := by
  obtain ⟨i0, hi, hzz⟩ := Option.map_eq_some_iff.1 info_u8
  simp only [Prod.mk.injEq] at hzz
  obtain ⟨hz0, hz1, hz2⟩ := hzz
  have e1 : lo ≤ up := by omega
  have e2 : up ≤ c := by omega
  have e3 : ¬ up = lo := by omega
  have hel : Try.prog.elem 41 = 5 := by simp [Program.elem, Try.underlying41]
  simp [Instr.slice, run_underlying Try.underlying41, Instr.sliceBounds, Instr.sliceBound, asIntOf, e1, e2, e3, sizeOf, typeInfo, hi, hz1, Result.andThen, Addr.add]
  exact fun h => h.symm
theorem R_slice0 {w : World} {B : Nat} {A : Option Addr} {n c : Nat} {l : List Nat} (h : (Kd.int .u8).R tU8 w B (fun _ => True) (.slice A n c) (nat l)) (h0 : 0 < l.length) : ∃ b cs, A = some ⟨b, 0, none⟩ ∧ n = l.length ∧ n ≤ c ∧ B ≤ b ∧ w.heap[b]? = some (.cells cs tU8 (0, 0)) ∧ ∀ j, j < l.length → cs[j]? = some (.int .u8 (l.getD j 0 : Nat)) := by
  obtain ⟨A1, c1, e1, h2, h3⟩ := Kd.R_reads h
  injection e1 with e1 e2 e3
  subst e1 e2 e3
  rw [nat_length] at h2 h3
  obtain ⟨inner, hown⟩ := Kd.R_own h
  obtain ⟨b, off, e, hb, hc⟩ := B_at h3 h0
  subst e
  have hbase := Kd.R_base h b rfl
  obtain ⟨cs, hcs⟩ := own_typed hown b rfl
  have hoff : off = 0 := by
    obtain ⟨_, hown⟩ := hown
    rcases hown with ⟨hv, _⟩ | ⟨g, cap, cells, hv, _⟩
    · cases hv
    · injection hv with hv
      injection hv with hv
      injection hv
  subst hoff
  refine ⟨b, cs, rfl, (nat_length l).symm ▸ rfl, ?_, hbase, hcs, fun j hj => ?_⟩
  · rw [nat_length]; exact h2
  · have := hc j hj
    rw [blk_cell hcs, Nat.zero_add] at this
    exact this
theorem ST.over {p c tn : Nat} {key : List Nat} {w w1 : World} {B : Nat} {v : Value} {xs : List Int} (h : ST p c key tn w) (hr : (Kd.int .u8).R tU8 w B (fun _ => True) v xs) (hg : w.grownBy w1 v.ownBlock) : ST p c key tn w1 := by
  obtain ⟨cs, hb⟩ := h.cu.blk
  exact ⟨blk_grown h.sp hg (own_ne (Kd.own_of_R hr) h.sp (by decide)), h.cu.keep (hg.block c h.cu.lt (own_ne (Kd.own_of_R hr) hb (by decide)))⟩
theorem grown_own {w w6 w8 : World} {c : Nat} {v : Value} (h : w.grownBy w6 (some c)) (hg : w6.grownBy w8 v.ownBlock) (hv : ∀ k, v.ownBlock = some k → w.heap.size ≤ k) : w.grownBy w8 (some c) :=
  ⟨hg.os.trans h.os, hg.tape.trans h.tape, hg.output.trans h.output, Nat.le_trans h.size hg.size, fun k hk hne => (hg.block k (Nat.lt_of_lt_of_le hk h.size) (fun e => by have := hv k e.symm; omega)).trans (h.block k hk hne)⟩
theorem grown_own' {w w6 w8 : World} {c b : Nat} (h : w.grownBy w6 (some c)) (hg : w6.grownBy w8 (some b)) (hb : w.heap.size ≤ b) : w.grownBy w8 (some c) :=
  ⟨hg.os.trans h.os, hg.tape.trans h.tape, hg.output.trans h.output, Nat.le_trans h.size hg.size, fun k hk hne => (hg.block k (Nat.lt_of_lt_of_le hk h.size) (fun e => by injection e with e; omega)).trans (h.block k hk hne)⟩
theorem at_go {f s len m : Nat} (hs : s < 16) : (((f : Int) + (m : Int)) * 16 < 16 * (f : Int) + (s : Int) + (len : Int)) ↔ m < cntN (16 * f + s) len := by
  unfold cntN
  omega
theorem cnt_le {f s len : Nat} (hs : s < 16) : s + len ≤ 16 * cntN (16 * f + s) len := by
  unfold cntN
  omega
theorem cnt_small {a len : Nat} (_ha : a ≤ 65536) (hl : len ≤ 65536) : cntN a len ≤ 8193 := by
  unfold cntN
  omega
theorem row16' {t : TypeId} {b : Nat} {l : List Nat} {w : World} (h : AB .u8 t b l w) (hl : l.length = 16) : (Kd.int .u8).C w (some ⟨b, 0, none⟩) 16 (nat l) := by
  have := ab_row h (by rw [hl]; decide)
  rwa [hl] at this
set_option maxRecDepth 100000 in
set_option maxHeartbeats 3200000 in
theorem at_any (p c tn n a len : Nat) (key : List Nat) (w : World) (h : ST p c key tn w) (htn : tn < 4611686018427300000) (hn : n < 18446744073709551616) (ha : a ≤ 65536) (hlen : len ≤ 65536) (hk : key.length = 16) (hk8 : ∀ x ∈ key, x < 256) :
    Calls Try.prog 26 #[.pointer (some ⟨p, 0, none⟩), .int .u64 (n : Int), .int .i64 (a : Int), .int .i64 (len : Int)] w fun e w' => ∃ v, e = .returned (.tuple #[v, .int .i64 0]) ∧ RV (atN key n a len) w.heap.size v w' ∧ CU c key ((tn + cntN a len : Nat) : Int) w' ∧ w.grownBy w' (some c) := by
  have HS := Lib.hid h
  have HBk := Lib.hid (fun m W (hm : m ≤ 8193) (h : ST p c key (tn + m) W) => block_any p c (tn + m) n (a / 16 + m) key W h (by omega) hn (by omega) hk hk8)
  have HK := Lib.hid (show key.length = 16 ∧ ∀ x ∈ key, x < 256 from ⟨hk, hk8⟩)
  have HA := Lib.hid (show a ≤ 65536 ∧ len ≤ 65536 from ⟨ha, hlen⟩)
  have HCs := Lib.hid (cnt_small ha hlen)
  have g0 : decide ((a : Int) < 0) = false := decide_eq_false (by omega)
  have g1 : decide ((len : Int) < 0) = false := decide_eq_false (by omega)
  have g2 : decide ((65536 : Int) < (a : Int)) = false := decide_eq_false (by omega)
  have g3 : decide ((65536 : Int) < (len : Int)) = false := decide_eq_false (by omega)
  have g4 : ¬ (a : Int) < 0 := by omega
  have g5 : ¬ (len : Int) < 0 := by omega
  have g6 : ¬ (65536 : Int) < (a : Int) := by omega
  have g7 : ¬ (65536 : Int) < (len : Int) := by omega
  have y1 : (a : Int) ≤ 65536 := by omega
  have y2 : (len : Int) ≤ 65536 := by omega
  have y3 : (0 : Int) ≤ (a : Int) := by omega
  have y4 : (0 : Int) ≤ (len : Int) := by omega
  obtain ⟨f, hf⟩ : ∃ y, a / 16 = y := ⟨_, rfl⟩
  obtain ⟨s, hs⟩ : ∃ y, a % 16 = y := ⟨_, rfl⟩
  have d1 : (a : Int).tdiv 16 = (f : Int) := by rw [Int.tdiv_eq_ediv_of_nonneg (by omega)]; omega
  have d2 : (a : Int) / 16 = (f : Int) := by omega
  have y5 : (f : Int) ≤ 4096 := by omega
  have HF := Lib.hid (show a = 16 * f + s ∧ s < 16 ∧ f ≤ 4096 from ⟨by omega, by omega, by omega⟩)
  rw [hf] at HBk
  have hc := h.cell
  have HC := Lib.hid (fun W (h : W.cell? ⟨p, 0, none⟩ = some (.pointer (some ⟨c, 0, none⟩))) => cipher_any p c W h)
  clear h htn hn ha hlen hk hk8 hf hs
  go_enter Try.func26, Try.ntmps26
  go_wp2_with (go_at_call 42; refine (HC.out w HS.out.cell).mono ?_; rintro e w7 ⟨rfl, hw7⟩; (rw [hw7]); clear hw7 w7)
  clear hc HC
  go_loopg [11, 12] (cntN a len + 2) (fun g v11 v12 w' => ∃ m : Nat, v12 = .int .i64 ((f : Int) + (m : Int)) ∧ Hid (m ≤ cntN a len ∧ cntN a len < g + m) ∧ Hid ((Kd.int .u8).R tU8 w' w.heap.size (fun _ => True) v11 (nat (strN key n f m))) ∧ Hid (ST p c key (tn + m) w') ∧ Hid (w.grownBy w' (some c)))
  case atStart => exact ⟨0, by simp, Lib.hid ⟨by omega, by omega⟩, Lib.hid (Kd.R_nil _ _ _ _ _), HS, Lib.hid (World.grownBy.refl _ _)⟩
  case round =>
    obtain ⟨m, rfl, HJ, HR, HSm, HG⟩ := hrel
    cases gk with
    | zero => have := HJ.out; omega
    | succ g1 =>
      have hgo := at_go (f := f) (s := s) (len := len) (m := m) HF.out.2.1
      rw [← HF.out.1] at hgo
      have hai : (a : Int) = 16 * (f : Int) + (s : Int) := by have := HF.out; omega
      have y6 : (m : Int) ≤ 8193 := by have := HJ.out; have := HCs.out; omega
      have y7 : (0 : Int) ≤ (m : Int) := by omega
      have y8 : (0 : Int) ≤ (f : Int) := by omega
      by_cases hm : m < cntN a len
      · have HJ' := Lib.hid (show m < cntN a len ∧ cntN a len < (g1 + 1) + m from ⟨hm, HJ.out.2⟩)
        have t1 : ((f : Int) + (m : Int)) * 16 < (a : Int) + (len : Int) := by have := hgo.2 hm; omega
        have HBm := Lib.hid (HBk.out m wr (by have := HCs.out; omega) HSm.out)
        obtain ⟨P, hP⟩ : ∃ P, blkN key n (f + m) = P := ⟨_, rfl⟩
        have HPl := Lib.hid (show P.length = 16 from by rw [← hP]; exact blkN_len _ _ _)
        rw [hP] at HBm
        have HN := Lib.hid (show nat (strN key n f (m + 1)) = nat (strN key n f m) ++ nat P from by rw [strN_succ, hP, nat_app])
        have HSl := Lib.hid (show (nat (strN key n f m)).length ≤ 16 * 8193 from by rw [nat_length, strN_len]; have := HCs.out; omega)
        have HPi := Lib.hid (show (Try.prog.info? tB).map (·.size) = some P.length from by rw [HPl.out]; exact info_B)
        have e1 : ((f + m : Nat) : Int) = (f : Int) + (m : Int) := by omega
        rw [e1] at HBm
        clear hgo hai hm HJ hP e1
        go_upto_region 13 with (first
          | (go_at_call 43; refine HBm.out.mono ?_; rintro e w5 ⟨rfl, hcu, hg⟩; (have HCU := Lib.hid hcu); (have HG5 := Lib.hid hg); clear hcu hg)
          | (refine store_ab .u8 w5.heap.size z16 P rfl rfl rfl rfl rfl (AB.mk w5 .u8 _ z16) HPi.out (by rw [HPl.out]; rfl) ?_; intro w6 h6 hg6; (have HP6 := Lib.hid h6); (have HG6 := Lib.hid (below_new hg6)); clear h6 hg6))
        obtain ⟨csc, hcb⟩ := HSm.out.cu.blk
        have HR6 := Lib.hid (Kd.R_below (R_obj HR.out hcb (by intro q hq; simp [show (Kd.int .u8).E = [] from rfl] at hq; subst hq; decide) HG5.out) HG6.out.1)
        have HS6 := Lib.hid ((HSm.out.turned HG5.out HCU.out).below HG6.out.1)
        have HGw := Lib.hid ((HG.out.trans HG5.out).trans (grown_below HG6.out.1 (some c)))
        have HCP := Lib.hid (row16' HP6.out HPl.out)
        clear HR HSm HG HCU HG5 HG6 hcb HBm
        generalize w5.heap.size = n5 at *
        generalize nat (strN key n f m) = xs at *
        go_wp2_with (at_builtin; refine appn (w0 := w6) .u8 w.heap.size (.tmp 56) (.tmp 57) 41 tU8 1 rfl rfl Try.underlying41 info_u8 (by decide) u11 xs (nat P) _ 16 16 rfl rfl HR6.out HCP.out (Below.refl _ _) HGw.out.size (by have := HSl.out; omega) ?_; intro v8 w8 hr8 hb8 hg8; (have HR8 := Lib.hid hr8); (have HG8 := Lib.hid hg8); clear hr8 hb8 hg8)
        go_roundg g1
        case measure => have := HJ'.out; omega
        case rel => exact ⟨m + 1, by go_num, Lib.hid (by have := HJ'.out; omega), Lib.hid (by rw [HN.out]; exact HR8.out), Lib.hid (HS6.out.over HR6.out HG8.out), Lib.hid (grown_own HGw.out HG8.out (fun k hk => Kd.R_base HR6.out k hk))⟩
      · obtain rfl : m = cntN a len := by have := HJ.out; omega
        have t1 : ¬ ((f : Int) + (cntN a len : Int)) * 16 < (a : Int) + (len : Int) := by have := fun h => hm (hgo.1 h); omega
        clear hgo hm HJ
        by_cases h0 : len = 0
        · subst h0
          go_wp2_with fail
          go_ret2
          exact ⟨_, rfl, .inl ⟨rfl, rfl⟩, HSm.out.cu, HG.out⟩
        · have t2 : ((len : Int) == 0) = false := beq_eq_false_iff_ne.2 (by omega)
          have t3 : ¬ (len : Int) = 0 := by omega
          have hcnt := cnt_le (f := f) (len := len) HF.out.2.1
          rw [← HF.out.1] at hcnt
          obtain ⟨A11, c11, hv, _, _⟩ := Kd.R_reads HR.out
          have hr := HR.out
          rw [hv] at hr
          obtain ⟨b, cs, e1, e2, e3, e4, e5, e6⟩ := R_slice0 hr (by rw [strN_len]; omega)
          rw [strN_len] at e2
          have HX := Lib.hid (show RV (atN key n a len) w.heap.size (.slice (some ⟨b, s, none⟩) len len) wr from .inr ⟨b, s, by rw [atN_len], e4, ⟨cs, e5, fun j hj => by
            rw [atN_len] at hj
            rw [e6 (s + j) (by rw [strN_len]; omega), strN_get _ _ _ _ _ (by omega), atN_get _ _ _ hj, HF.out.1, Nat.add_assoc]⟩, by rw [atN_len]; omega⟩)
          have hcut := fun W => cut3b b (16 * cntN a len) c11 s (s + len) (by omega) (by omega) (by rw [← e2]; exact e3) W
          rw [show s + len - s = len from by omega, show ((s + len : Nat) : Int) = (s : Int) + (len : Int) from by omega] at hcut
          have k1 : (a : Int) - (f : Int) * 16 = (s : Int) := by omega
          have k2 : (s : Int) < 16 := by have := HF.out.2.1; omega
          have k3 : (0 : Int) ≤ (s : Int) := by omega
          subst e1
          rw [e2] at hv
          subst hv
          clear hr e2 e3 e4 e5 e6 h0 hcnt HR hai
          go_wp2_with fail
          go_ret2
          exact ⟨_, rfl, HX.out, HSm.out.cu, HG.out⟩
set_option maxRecDepth 100000 in
set_option maxHeartbeats 3200000 in
theorem hide_any (p c tn n : Nat) (key l : List Nat) (A : Option Addr) (cp : Nat) (w : World) (h : ST p c key tn w) (htn : tn < 4611686018427300000) (hn : n < 18446744073709551616) (hk : key.length = 16) (hk8 : ∀ x ∈ key, x < 256) (hC : (Kd.int .u8).C w A l.length (nat l)) (hA : 0 < l.length → ∀ ad, A = some ad → ad.block ≠ c) (hl : l.length ≤ 65536) (hl8 : ∀ x ∈ l, x < 256) :
    Calls Try.prog 25 #[.pointer (some ⟨p, 0, none⟩), .int .u64 (n : Int), .slice A l.length cp] w fun e w' => ∃ v, e = .returned (.tuple #[v, .int .i64 0]) ∧ RV (hideN key n l) w.heap.size v w' ∧ CU c key ((tn + cntN 0 l.length : Nat) : Int) w' ∧ w.grownBy w' (some c) := by
  have HS := Lib.hid h
  have hq := at_any p c tn n 0 l.length key w h htn hn (by omega) hl hk hk8
  rw [show ((0 : Nat) : Int) = 0 from rfl] at hq
  have HQ := Lib.hid hq
  have HK8 := Lib.hid hk8
  have HL8 := Lib.hid hl8
  have HC := Lib.hid (fun W (h : W.cell? ⟨p, 0, none⟩ = some (.pointer (some ⟨c, 0, none⟩))) => cipher_any p c W h)
  have g0 : decide ((65536 : Int) < (l.length : Int)) = false := decide_eq_false (by omega)
  have g1 : ¬ (65536 : Int) < (l.length : Int) := by omega
  have g2 : (l.length : Int) ≤ 65536 := by omega
  by_cases h0 : l.length = 0
  · obtain rfl : l = [] := List.eq_nil_of_length_eq_zero h0
    clear h htn hn hk hk8 hC hA hl hl8 hq h0 g0 g1 g2
    rw [show ([] : List Nat).length = 0 from rfl] at HQ ⊢
    go_enter Try.func25, Try.ntmps25
    go_wp2_with (first
      | (go_at_call 42; refine (HC.out w HS.out.cell).mono ?_; rintro e w7 ⟨rfl, hw7⟩; (rw [hw7]); clear hw7 w7)
      | (go_at_call 26; refine HQ.out.mono ?_; rintro e w5 ⟨v, rfl, hrv, hcu, hg⟩; (have HRV := Lib.hid hrv); (have HCU := Lib.hid hcu); (have HG5 := Lib.hid hg); clear hrv hcu hg))
    go_loopg [33] 2 (fun g v33 w' => v33 = .int .i64 0 ∧ Hid (w' = w5) ∧ Hid (0 < g))
    case atStart => exact ⟨rfl, Lib.hid rfl, Lib.hid (by omega)⟩
    case round =>
      obtain ⟨rfl, HW, HG⟩ := hrel
      obtain rfl := HW.out
      cases gk with
      | zero => have := HG.out; omega
      | succ g1 =>
        clear HW HG
        go_wp2_with fail
        go_ret2
        exact ⟨v, rfl, HRV.out, HCU.out, HG5.out⟩
  · obtain ⟨ba, oa, rfl, hba, hca⟩ := B_at hC (by omega)
    have HCa := Lib.hid hca
    have HBa := Lib.hid (show ba < w.heap.size ∧ ba ≠ c from ⟨hba, hA (by omega) _ rfl⟩)
    have HL0 := Lib.hid h0
    clear h htn hn hk hk8 hC hA hl hl8 hq h0 hba hca
    go_enter Try.func25, Try.ntmps25
    go_wp2_with (first
      | (go_at_call 42; refine (HC.out w HS.out.cell).mono ?_; rintro e w7 ⟨rfl, hw7⟩; (rw [hw7]); clear hw7 w7)
      | (go_at_call 26; refine HQ.out.mono ?_; rintro e w5 ⟨v, rfl, hrv, hcu, hg⟩; (have HRV := Lib.hid hrv); (have HCU := Lib.hid hcu); (have HG5 := Lib.hid hg); clear hrv hcu hg; have HX := HRV.out.resolve_left (fun h => HL0.out (by have := congrArg List.length h.1; rwa [atN_len] at this)); obtain ⟨b, off, hv, hb, hw, _⟩ := HX; rw [atN_len] at hv; subst hv; (have HRW := Lib.hid hw); (have HBb := Lib.hid hb); clear hb hw HRV))
    have HCa5 := Lib.hid (fun j (hj : j < l.length) => (World.cell?_of_block (w := w) (a := ⟨ba, oa + j, none⟩) (HG5.out.block ba HBa.out.1 (fun e => HBa.out.2 (by injection e)))).trans (HCa.out j hj))
    have HLe := Lib.hid (show c < w.heap.size from HS.out.cu.lt)
    clear HQ HC HS HCa
    go_wp2_with fail
    go_loopg [33] (l.length + 2) (fun g v33 w' => ∃ i : Nat, v33 = .int .i64 (i : Int) ∧ Hid (i ≤ l.length ∧ l.length < g + i) ∧ Hid (RW b off (fld (hideN key n l) (atN key n 0 l.length) i) w') ∧ Hid (w5.grownBy w' (some b)))
    case atStart => exact ⟨0, rfl, Lib.hid ⟨by omega, by omega⟩, Lib.hid (by rw [fld_zero]; exact HRW.out), Lib.hid (World.grownBy.refl _ _)⟩
    case round =>
      obtain ⟨i, rfl, HJ, HR, HG⟩ := hrel
      cases gk with
      | zero => have := HJ.out; omega
      | succ g1 =>
        by_cases hi : i < l.length
        · have HJ' := Lib.hid (show i < l.length ∧ l.length < (g1 + 1) + i from ⟨hi, HJ.out.2⟩)
          have z0 : (i : Int) < (l.length : Int) := by omega
          have z1 : (0 : Int) ≤ (i : Int) := by omega
          have hfl : (fld (hideN key n l) (atN key n 0 l.length) i).length = l.length := by rw [fld_length (by rw [hideN_len, atN_len]) (by rw [hideN_len]; omega), atN_len]
          have c1 := HR.out.cell (j := i) (by rw [hfl]; exact hi)
          rw [fld_get (by rw [hideN_len, atN_len]) (by rw [hideN_len]; exact hi), atN_get _ _ _ hi, Nat.zero_add] at c1
          have f1 := HR.out.fz (off + i)
          have c2 := (World.cell?_of_block (w := w5) (a := ⟨ba, oa + i, none⟩) (HG.out.block ba (by have := HG5.out.size; have := HBa.out.1; omega) (fun e => by injection e with e; have := HBb.out; have := HBa.out.1; omega))).trans (HCa5.out i hi)
          obtain ⟨va, hva⟩ : ∃ y, sb key n i = y := ⟨_, rfl⟩
          obtain ⟨vb, hvb⟩ : ∃ y, l.getD i 0 = y := ⟨_, rfl⟩
          have x1 := xor_u8 va vb (by rw [← hva]; exact sb_lt HK8.out _ _) (by rw [← hvb]; exact getD_lt0 (by decide) _ HL8.out)
          have hs := fld_step (new := hideN key n l) (old := atN key n 0 l.length) (by rw [hideN_len, atN_len]) (by rw [hideN_len]; exact hi)
          rw [hideN_get _ _ _ hi, hva, hvb, Nat.xor_comm] at hs
          have HSt := Lib.hid hs
          have HFl := Lib.hid hfl
          rw [hva] at c1
          rw [hvb] at c2
          clear hva hvb hs hfl hi HJ
          generalize va ^^^ vb = vx at *
          go_wp2_with fail
          clear c1 c2 f1 x1
          go_roundg g1
          case measure => have := HJ'.out; omega
          case rel =>
            have hx := HR.out.set (i := i) (by rw [HFl.out]; exact HJ'.out.1) vx
            rw [HSt.out] at hx
            exact ⟨i + 1, by go_num, Lib.hid (by have := HJ'.out; omega), Lib.hid hx, Lib.hid (HG.out.trans (grown_set _ _ _ _))⟩
        · obtain rfl : i = l.length := by have := HJ.out; omega
          clear hi HJ
          have hr := HR.out
          have hfa := fld_all (new := hideN key n l) (old := atN key n 0 l.length) (by rw [hideN_len, atN_len])
          rw [hideN_len] at hfa
          rw [hfa] at hr
          have HX := Lib.hid hr
          clear hr hfa
          go_wp2_with fail
          go_ret2
          exact ⟨.slice (some ⟨b, off, none⟩) l.length l.length, rfl, .inr ⟨b, off, by rw [hideN_len], HBb.out, HX.out, by rw [hideN_len]; omega⟩, HCU.out.grown' HG.out (by have := HBb.out; have := HLe.out; omega), grown_own' HG5.out HG.out HBb.out⟩
end Go.Proofs.Ytblnclooobggnaa.A
