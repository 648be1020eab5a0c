/-
  Parts of one proof, joined: ctr: At, Hide. | sha: words of 32 bits and one block, in plain Lean. | sha: small functions: begin, constants, turn, word. | sha: constants, word. | sha: blocks go in piece by piece; padding; in plain Lean. | sha: the document's block is the same block, in plain Lean. | sha: word. | sha: a block goes into a state. | sha: a sum in memory; New, Len, Add. | sha: Sum.
-/
import Derived.Test.YtblnclooobggnaaZB0
import Derived.Test.YtblnclooobggnaaZB1
import Derived.Test.YtblnclooobggnaaZB2
import Derived.Test.YtblnclooobggnaaProg
import Derived.Deep.WholeRow
import Derived.Deep.QuietTactic
import Derived.BigQuiet
import Derived.Deep.DeepCutAuto
import Derived.Deep.CutRange

namespace Go.Proofs.Ytblnclooobggnaa.A
open Go.RowKit Go.Proofs.Ytblnclooobggnaa.L Go.Proofs.Ytblnclooobggnaa.N Go.Proofs.YtblnclooobggnaaW.PrintWords

abbrev tU8 : TypeId := 5
/-- bytes in the middle of a block of bytes that is one's own -/
def RW (b off : Nat) (l : List Nat) (w : World) : Prop := ∃ cs : Array Value, w.heap[b]? = some (.cells cs tU8 (0, 0)) ∧ ∀ j, j < l.length → cs[off + j]? = some (.int .u8 (l.getD j 0 : Nat))
theorem RW.lt {b off : Nat} {l : List Nat} {w : World} (h : RW b off l w) : b < w.heap.size := by
  obtain ⟨cs, h, _⟩ := h
  exact blk_lt h
theorem RW.cell {b off : Nat} {l : List Nat} {w : World} (h : RW b off l w) {j : Nat} (hj : j < l.length) : w.cell? ⟨b, off + j, none⟩ = some (.int .u8 (l.getD j 0 : Nat)) := by
  obtain ⟨cs, h, hc⟩ := h
  rw [blk_cell h]
  exact hc j hj
theorem RW.fz {b off : Nat} {l : List Nat} {w : World} (h : RW b off l w) (i : Nat) : w.frozen? ⟨b, i, none⟩ = false := by
  obtain ⟨cs, h, _⟩ := h
  exact blk_frozen h i
theorem RW.keep {b off : Nat} {l : List Nat} {w w1 : World} (h : RW b off l w) (hm : w1.heap[b]? = w.heap[b]?) : RW b off l w1 := by
  obtain ⟨cs, h, hc⟩ := h
  exact ⟨cs, hm.trans h, hc⟩
theorem RW.below {b off : Nat} {l : List Nat} {w w1 : World} (h : RW b off l w) (hb : Below w.heap.size w w1) : RW b off l w1 := h.keep (hb.block b h.lt)
theorem RW.grown {b off c : Nat} {l : List Nat} {w w1 : World} (h : RW b off l w) (hg : w.grownBy w1 (some c)) (hne : b ≠ c) : RW b off l w1 := h.keep (hg.block b h.lt (fun e => hne (by injection e)))
theorem RW.set {b off : Nat} {l : List Nat} {w : World} (h : RW b off l w) {i : Nat} (_ : i < l.length) (x : Nat) : RW b off (l.set i x) (w.setCell ⟨b, off + i, none⟩ (.int .u8 (x : Nat))) := by
  obtain ⟨cs, h, hc⟩ := h
  refine ⟨_, blk_set h (off + i) _, fun j hj => ?_⟩
  rw [List.length_set] at hj
  by_cases e : i = j
  · subst e
    have := hc i hj
    have hlt : off + i < cs.size := (Array.getElem?_eq_some_iff.1 this).1
    simp [hlt, List.getD_eq_getElem?_getD, hj]
  · rw [Array.getElem?_setIfInBounds_ne (by omega), hc j hj, List.getD_eq_getElem?_getD, List.getD_eq_getElem?_getD, List.getElem?_set_ne e]
theorem RW.C {b off : Nat} {l : List Nat} {w : World} (h : RW b off l w) (hl : l.length ≤ 9223372036854775807) : (Kd.int .u8).C w (some ⟨b, off, none⟩) l.length (nat l) := by
  refine Kd.C_of_reads (d := (0 : Int)) ⟨nat_length l, hl, fun _ => ⟨_, rfl, fun j hj => ?_⟩⟩
  rw [add_at, h.cell hj, nat_get hj]
/-- what At and Hide give -/
def RV (l : List Nat) (base : Nat) (v : Value) (w : World) : Prop := (l = [] ∧ v = .slice none 0 0) ∨ ∃ b off, v = .slice (some ⟨b, off, none⟩) l.length l.length ∧ base ≤ b ∧ RW b off l w ∧ l.length ≤ 9223372036854775807
theorem RV.open {l : List Nat} {base : Nat} {v : Value} {w : World} (h : RV l base v w) : ∃ A c, v = .slice A l.length c ∧ l.length ≤ c ∧ (Kd.int .u8).C w A l.length (nat l) ∧ ∀ ad, A = some ad → base ≤ ad.block := by
  rcases h with ⟨rfl, rfl⟩ | ⟨b, off, rfl, hb, hw, hl⟩
  · exact ⟨none, 0, rfl, Nat.le_refl _, C_none w, fun _ h => by cases h⟩
  · exact ⟨_, _, rfl, Nat.le_refl _, hw.C hl, fun ad e => by injection e with e; subst e; exact hb⟩
theorem cut3b (b n c lo up : Nat) (h1 : lo < up) (h2 : up ≤ n) (hc : n ≤ c) (W : World) : (Instr.slice 41 (.slice (some ⟨b, 0, none⟩) n c) (some (.int .i64 (lo : Int))) (some (.int .i64 (up : Int))) (some (.int .i64 (up : Int)))).run Try.prog W = .ok (.slice (some ⟨b, lo, none⟩) (up - lo) (up - lo)) W := by
  obtain ⟨i0, hi, hzz⟩ := Option.map_eq_some_iff.1 info_u8
  simp only [Prod.mk.injEq] at hzz
  obtain ⟨hz0, hz1, hz2⟩ := hzz
  have e1 : lo ≤ up := by omega
  have e2 : up ≤ c := by omega
  have e3 : ¬ up = lo := by omega
  have hel : Try.prog.elem 41 = 5 := by simp [Program.elem, Try.underlying41]
  simp [Instr.slice, run_underlying Try.underlying41, Instr.sliceBounds, Instr.sliceBound, asIntOf, e1, e2, e3, sizeOf, typeInfo, hi, hz1, Result.andThen, Addr.add]
  exact fun h => h.symm
theorem R_slice0 {w : World} {B : Nat} {A : Option Addr} {n c : Nat} {l : List Nat} (h : (Kd.int .u8).R tU8 w B (fun _ => True) (.slice A n c) (nat l)) (h0 : 0 < l.length) : ∃ b cs, A = some ⟨b, 0, none⟩ ∧ n = l.length ∧ n ≤ c ∧ B ≤ b ∧ w.heap[b]? = some (.cells cs tU8 (0, 0)) ∧ ∀ j, j < l.length → cs[j]? = some (.int .u8 (l.getD j 0 : Nat)) := by
  obtain ⟨A1, c1, e1, h2, h3⟩ := Kd.R_reads h
  injection e1 with e1 e2 e3
  subst e1 e2 e3
  rw [nat_length] at h2 h3
  obtain ⟨inner, hown⟩ := Kd.R_own h
  obtain ⟨b, off, e, hb, hc⟩ := B_at h3 h0
  subst e
  have hbase := Kd.R_base h b rfl
  obtain ⟨cs, hcs⟩ := own_typed hown b rfl
  have hoff : off = 0 := by
    obtain ⟨_, hown⟩ := hown
    rcases hown with ⟨hv, _⟩ | ⟨g, cap, cells, hv, _⟩
    · cases hv
    · injection hv with hv
      injection hv with hv
      injection hv
  subst hoff
  refine ⟨b, cs, rfl, (nat_length l).symm ▸ rfl, ?_, hbase, hcs, fun j hj => ?_⟩
  · rw [nat_length]; exact h2
  · have := hc j hj
    rw [blk_cell hcs, Nat.zero_add] at this
    exact this
theorem ST.over {p c tn : Nat} {key : List Nat} {w w1 : World} {B : Nat} {v : Value} {xs : List Int} (h : ST p c key tn w) (hr : (Kd.int .u8).R tU8 w B (fun _ => True) v xs) (hg : w.grownBy w1 v.ownBlock) : ST p c key tn w1 := by
  obtain ⟨cs, hb⟩ := h.cu.blk
  exact ⟨blk_grown h.sp hg (own_ne (Kd.own_of_R hr) h.sp (by decide)), h.cu.keep (hg.block c h.cu.lt (own_ne (Kd.own_of_R hr) hb (by decide)))⟩
theorem grown_own {w w6 w8 : World} {c : Nat} {v : Value} (h : w.grownBy w6 (some c)) (hg : w6.grownBy w8 v.ownBlock) (hv : ∀ k, v.ownBlock = some k → w.heap.size ≤ k) : w.grownBy w8 (some c) :=
  ⟨hg.os.trans h.os, hg.tape.trans h.tape, hg.output.trans h.output, Nat.le_trans h.size hg.size, fun k hk hne => (hg.block k (Nat.lt_of_lt_of_le hk h.size) (fun e => by have := hv k e.symm; omega)).trans (h.block k hk hne)⟩
theorem grown_own' {w w6 w8 : World} {c b : Nat} (h : w.grownBy w6 (some c)) (hg : w6.grownBy w8 (some b)) (hb : w.heap.size ≤ b) : w.grownBy w8 (some c) :=
  ⟨hg.os.trans h.os, hg.tape.trans h.tape, hg.output.trans h.output, Nat.le_trans h.size hg.size, fun k hk hne => (hg.block k (Nat.lt_of_lt_of_le hk h.size) (fun e => by injection e with e; omega)).trans (h.block k hk hne)⟩
theorem at_go {f s len m : Nat} (hs : s < 16) : (((f : Int) + (m : Int)) * 16 < 16 * (f : Int) + (s : Int) + (len : Int)) ↔ m < cntN (16 * f + s) len := by
  unfold cntN
  omega
theorem cnt_le {f s len : Nat} (hs : s < 16) : s + len ≤ 16 * cntN (16 * f + s) len := by
  unfold cntN
  omega
theorem cnt_small {a len : Nat} (_ha : a ≤ 65536) (hl : len ≤ 65536) : cntN a len ≤ 8193 := by
  unfold cntN
  omega
theorem row16' {t : TypeId} {b : Nat} {l : List Nat} {w : World} (h : AB .u8 t b l w) (hl : l.length = 16) : (Kd.int .u8).C w (some ⟨b, 0, none⟩) 16 (nat l) := by
  have := ab_row h (by rw [hl]; decide)
  rwa [hl] at this
set_option maxRecDepth 100000 in
set_option maxHeartbeats 3200000 in
theorem at_any (p c tn n a len : Nat) (key : List Nat) (w : World) (h : ST p c key tn w) (htn : tn < 4611686018427300000) (hn : n < 18446744073709551616) (ha : a ≤ 65536) (hlen : len ≤ 65536) (hk : key.length = 16) (hk8 : ∀ x ∈ key, x < 256) :
    Calls Try.prog 26 #[.pointer (some ⟨p, 0, none⟩), .int .u64 (n : Int), .int .i64 (a : Int), .int .i64 (len : Int)] w fun e w' => ∃ v, e = .returned (.tuple #[v, .int .i64 0]) ∧ RV (atN key n a len) w.heap.size v w' ∧ CU c key ((tn + cntN a len : Nat) : Int) w' ∧ w.grownBy w' (some c) := by
  have HS := Lib.hid h
  have HBk := Lib.hid (fun m W (hm : m ≤ 8193) (h : ST p c key (tn + m) W) => block_any p c (tn + m) n (a / 16 + m) key W h (by omega) hn (by omega) hk hk8)
  have HK := Lib.hid (show key.length = 16 ∧ ∀ x ∈ key, x < 256 from ⟨hk, hk8⟩)
  have HA := Lib.hid (show a ≤ 65536 ∧ len ≤ 65536 from ⟨ha, hlen⟩)
  have HCs := Lib.hid (cnt_small ha hlen)
  have g0 : decide ((a : Int) < 0) = false := decide_eq_false (by omega)
  have g1 : decide ((len : Int) < 0) = false := decide_eq_false (by omega)
  have g2 : decide ((65536 : Int) < (a : Int)) = false := decide_eq_false (by omega)
  have g3 : decide ((65536 : Int) < (len : Int)) = false := decide_eq_false (by omega)
  have g4 : ¬ (a : Int) < 0 := by omega
  have g5 : ¬ (len : Int) < 0 := by omega
  have g6 : ¬ (65536 : Int) < (a : Int) := by omega
  have g7 : ¬ (65536 : Int) < (len : Int) := by omega
  have y1 : (a : Int) ≤ 65536 := by omega
  have y2 : (len : Int) ≤ 65536 := by omega
  have y3 : (0 : Int) ≤ (a : Int) := by omega
  have y4 : (0 : Int) ≤ (len : Int) := by omega
  obtain ⟨f, hf⟩ : ∃ y, a / 16 = y := ⟨_, rfl⟩
  obtain ⟨s, hs⟩ : ∃ y, a % 16 = y := ⟨_, rfl⟩
  have d1 : (a : Int).tdiv 16 = (f : Int) := by rw [Int.tdiv_eq_ediv_of_nonneg (by omega)]; omega
  have d2 : (a : Int) / 16 = (f : Int) := by omega
  have y5 : (f : Int) ≤ 4096 := by omega
  have HF := Lib.hid (show a = 16 * f + s ∧ s < 16 ∧ f ≤ 4096 from ⟨by omega, by omega, by omega⟩)
  rw [hf] at HBk
  have hc := h.cell
  have HC := Lib.hid (fun W (h : W.cell? ⟨p, 0, none⟩ = some (.pointer (some ⟨c, 0, none⟩))) => cipher_any p c W h)
  clear h htn hn ha hlen hk hk8 hf hs
  go_enter Try.func26, Try.ntmps26
  go_wp2_with (go_at_call 42; refine (HC.out w HS.out.cell).mono ?_; rintro e w7 ⟨rfl, hw7⟩; (rw [hw7]); clear hw7 w7)
  clear hc HC
  go_loopg [11, 12] (cntN a len + 2) (fun g v11 v12 w' => ∃ m : Nat, v12 = .int .i64 ((f : Int) + (m : Int)) ∧ Hid (m ≤ cntN a len ∧ cntN a len < g + m) ∧ Hid ((Kd.int .u8).R tU8 w' w.heap.size (fun _ => True) v11 (nat (strN key n f m))) ∧ Hid (ST p c key (tn + m) w') ∧ Hid (w.grownBy w' (some c)))
  case atStart => exact ⟨0, by simp, Lib.hid ⟨by omega, by omega⟩, Lib.hid (Kd.R_nil _ _ _ _ _), HS, Lib.hid (World.grownBy.refl _ _)⟩
  case round =>
    obtain ⟨m, rfl, HJ, HR, HSm, HG⟩ := hrel
    cases gk with
    | zero => have := HJ.out; omega
    | succ g1 =>
      have hgo := at_go (f := f) (s := s) (len := len) (m := m) HF.out.2.1
      rw [← HF.out.1] at hgo
      have hai : (a : Int) = 16 * (f : Int) + (s : Int) := by have := HF.out; omega
      have y6 : (m : Int) ≤ 8193 := by have := HJ.out; have := HCs.out; omega
      have y7 : (0 : Int) ≤ (m : Int) := by omega
      have y8 : (0 : Int) ≤ (f : Int) := by omega
      by_cases hm : m < cntN a len
      · have HJ' := Lib.hid (show m < cntN a len ∧ cntN a len < (g1 + 1) + m from ⟨hm, HJ.out.2⟩)
        have t1 : ((f : Int) + (m : Int)) * 16 < (a : Int) + (len : Int) := by have := hgo.2 hm; omega
        have HBm := Lib.hid (HBk.out m wr (by have := HCs.out; omega) HSm.out)
        obtain ⟨P, hP⟩ : ∃ P, blkN key n (f + m) = P := ⟨_, rfl⟩
        have HPl := Lib.hid (show P.length = 16 from by rw [← hP]; exact blkN_len _ _ _)
        rw [hP] at HBm
        have HN := Lib.hid (show nat (strN key n f (m + 1)) = nat (strN key n f m) ++ nat P from by rw [strN_succ, hP, nat_app])
        have HSl := Lib.hid (show (nat (strN key n f m)).length ≤ 16 * 8193 from by rw [nat_length, strN_len]; have := HCs.out; omega)
        have HPi := Lib.hid (show (Try.prog.info? tB).map (·.size) = some P.length from by rw [HPl.out]; exact info_B)
        have e1 : ((f + m : Nat) : Int) = (f : Int) + (m : Int) := by omega
        rw [e1] at HBm
        clear hgo hai hm HJ hP e1
        go_upto_region 13 with (first
          | (go_at_call 43; refine HBm.out.mono ?_; rintro e w5 ⟨rfl, hcu, hg⟩; (have HCU := Lib.hid hcu); (have HG5 := Lib.hid hg); clear hcu hg)
          | (refine store_ab .u8 w5.heap.size z16 P rfl rfl rfl rfl rfl (AB.mk w5 .u8 _ z16) HPi.out (by rw [HPl.out]; rfl) ?_; intro w6 h6 hg6; (have HP6 := Lib.hid h6); (have HG6 := Lib.hid (below_new hg6)); clear h6 hg6))
        obtain ⟨csc, hcb⟩ := HSm.out.cu.blk
        have HR6 := Lib.hid (Kd.R_below (R_obj HR.out hcb (by intro q hq; simp [show (Kd.int .u8).E = [] from rfl] at hq; subst hq; decide) HG5.out) HG6.out.1)
        have HS6 := Lib.hid ((HSm.out.turned HG5.out HCU.out).below HG6.out.1)
        have HGw := Lib.hid ((HG.out.trans HG5.out).trans (grown_below HG6.out.1 (some c)))
        have HCP := Lib.hid (row16' HP6.out HPl.out)
        clear HR HSm HG HCU HG5 HG6 hcb HBm
        generalize w5.heap.size = n5 at *
        generalize nat (strN key n f m) = xs at *
        go_wp2_with (at_builtin; refine appn (w0 := w6) .u8 w.heap.size (.tmp 56) (.tmp 57) 41 tU8 1 rfl rfl Try.underlying41 info_u8 (by decide) u11 xs (nat P) _ 16 16 rfl rfl HR6.out HCP.out (Below.refl _ _) HGw.out.size (by have := HSl.out; omega) ?_; intro v8 w8 hr8 hb8 hg8; (have HR8 := Lib.hid hr8); (have HG8 := Lib.hid hg8); clear hr8 hb8 hg8)
        go_roundg g1
        case measure => have := HJ'.out; omega
        case rel => exact ⟨m + 1, by go_num, Lib.hid (by have := HJ'.out; omega), Lib.hid (by rw [HN.out]; exact HR8.out), Lib.hid (HS6.out.over HR6.out HG8.out), Lib.hid (grown_own HGw.out HG8.out (fun k hk => Kd.R_base HR6.out k hk))⟩
      · obtain rfl : m = cntN a len := by have := HJ.out; omega
        have t1 : ¬ ((f : Int) + (cntN a len : Int)) * 16 < (a : Int) + (len : Int) := by have := fun h => hm (hgo.1 h); omega
        clear hgo hm HJ
        by_cases h0 : len = 0
        · subst h0
          go_wp2_with fail
          go_ret2
          exact ⟨_, rfl, .inl ⟨rfl, rfl⟩, HSm.out.cu, HG.out⟩
        · have t2 : ((len : Int) == 0) = false := beq_eq_false_iff_ne.2 (by omega)
          have t3 : ¬ (len : Int) = 0 := by omega
          have hcnt := cnt_le (f := f) (len := len) HF.out.2.1
          rw [← HF.out.1] at hcnt
          obtain ⟨A11, c11, hv, _, _⟩ := Kd.R_reads HR.out
          have hr := HR.out
          rw [hv] at hr
          obtain ⟨b, cs, e1, e2, e3, e4, e5, e6⟩ := R_slice0 hr (by rw [strN_len]; omega)
          rw [strN_len] at e2
          have HX := Lib.hid (show RV (atN key n a len) w.heap.size (.slice (some ⟨b, s, none⟩) len len) wr from .inr ⟨b, s, by rw [atN_len], e4, ⟨cs, e5, fun j hj => by
            rw [atN_len] at hj
            rw [e6 (s + j) (by rw [strN_len]; omega), strN_get _ _ _ _ _ (by omega), atN_get _ _ _ hj, HF.out.1, Nat.add_assoc]⟩, by rw [atN_len]; omega⟩)
          have hcut := fun W => cut3b b (16 * cntN a len) c11 s (s + len) (by omega) (by omega) (by rw [← e2]; exact e3) W
          rw [show s + len - s = len from by omega, show ((s + len : Nat) : Int) = (s : Int) + (len : Int) from by omega] at hcut
          have k1 : (a : Int) - (f : Int) * 16 = (s : Int) := by omega
          have k2 : (s : Int) < 16 := by have := HF.out.2.1; omega
          have k3 : (0 : Int) ≤ (s : Int) := by omega
          subst e1
          rw [e2] at hv
          subst hv
          clear hr e2 e3 e4 e5 e6 h0 hcnt HR hai
          go_wp2_with fail
          go_ret2
          exact ⟨_, rfl, HX.out, HSm.out.cu, HG.out⟩
set_option maxRecDepth 100000 in
set_option maxHeartbeats 3200000 in
theorem hide_any (p c tn n : Nat) (key l : List Nat) (A : Option Addr) (cp : Nat) (w : World) (h : ST p c key tn w) (htn : tn < 4611686018427300000) (hn : n < 18446744073709551616) (hk : key.length = 16) (hk8 : ∀ x ∈ key, x < 256) (hC : (Kd.int .u8).C w A l.length (nat l)) (hA : 0 < l.length → ∀ ad, A = some ad → ad.block ≠ c) (hl : l.length ≤ 65536) (hl8 : ∀ x ∈ l, x < 256) :
    Calls Try.prog 25 #[.pointer (some ⟨p, 0, none⟩), .int .u64 (n : Int), .slice A l.length cp] w fun e w' => ∃ v, e = .returned (.tuple #[v, .int .i64 0]) ∧ RV (hideN key n l) w.heap.size v w' ∧ CU c key ((tn + cntN 0 l.length : Nat) : Int) w' ∧ w.grownBy w' (some c) := by
  have HS := Lib.hid h
  have hq := at_any p c tn n 0 l.length key w h htn hn (by omega) hl hk hk8
  rw [show ((0 : Nat) : Int) = 0 from rfl] at hq
  have HQ := Lib.hid hq
  have HK8 := Lib.hid hk8
  have HL8 := Lib.hid hl8
  have HC := Lib.hid (fun W (h : W.cell? ⟨p, 0, none⟩ = some (.pointer (some ⟨c, 0, none⟩))) => cipher_any p c W h)
  have g0 : decide ((65536 : Int) < (l.length : Int)) = false := decide_eq_false (by omega)
  have g1 : ¬ (65536 : Int) < (l.length : Int) := by omega
  have g2 : (l.length : Int) ≤ 65536 := by omega
  by_cases h0 : l.length = 0
  · obtain rfl : l = [] := List.eq_nil_of_length_eq_zero h0
    clear h htn hn hk hk8 hC hA hl hl8 hq h0 g0 g1 g2
    rw [show ([] : List Nat).length = 0 from rfl] at HQ ⊢
    go_enter Try.func25, Try.ntmps25
    go_wp2_with (first
      | (go_at_call 42; refine (HC.out w HS.out.cell).mono ?_; rintro e w7 ⟨rfl, hw7⟩; (rw [hw7]); clear hw7 w7)
      | (go_at_call 26; refine HQ.out.mono ?_; rintro e w5 ⟨v, rfl, hrv, hcu, hg⟩; (have HRV := Lib.hid hrv); (have HCU := Lib.hid hcu); (have HG5 := Lib.hid hg); clear hrv hcu hg))
    go_loopg [33] 2 (fun g v33 w' => v33 = .int .i64 0 ∧ Hid (w' = w5) ∧ Hid (0 < g))
    case atStart => exact ⟨rfl, Lib.hid rfl, Lib.hid (by omega)⟩
    case round =>
      obtain ⟨rfl, HW, HG⟩ := hrel
      obtain rfl := HW.out
      cases gk with
      | zero => have := HG.out; omega
      | succ g1 =>
        clear HW HG
        go_wp2_with fail
        go_ret2
        exact ⟨v, rfl, HRV.out, HCU.out, HG5.out⟩
  · obtain ⟨ba, oa, rfl, hba, hca⟩ := B_at hC (by omega)
    have HCa := Lib.hid hca
    have HBa := Lib.hid (show ba < w.heap.size ∧ ba ≠ c from ⟨hba, hA (by omega) _ rfl⟩)
    have HL0 := Lib.hid h0
    clear h htn hn hk hk8 hC hA hl hl8 hq h0 hba hca
    go_enter Try.func25, Try.ntmps25
    go_wp2_with (first
      | (go_at_call 42; refine (HC.out w HS.out.cell).mono ?_; rintro e w7 ⟨rfl, hw7⟩; (rw [hw7]); clear hw7 w7)
      | (go_at_call 26; refine HQ.out.mono ?_; rintro e w5 ⟨v, rfl, hrv, hcu, hg⟩; (have HRV := Lib.hid hrv); (have HCU := Lib.hid hcu); (have HG5 := Lib.hid hg); clear hrv hcu hg; have HX := HRV.out.resolve_left (fun h => HL0.out (by have := congrArg List.length h.1; rwa [atN_len] at this)); obtain ⟨b, off, hv, hb, hw, _⟩ := HX; rw [atN_len] at hv; subst hv; (have HRW := Lib.hid hw); (have HBb := Lib.hid hb); clear hb hw HRV))
    have HCa5 := Lib.hid (fun j (hj : j < l.length) => (World.cell?_of_block (w := w) (a := ⟨ba, oa + j, none⟩) (HG5.out.block ba HBa.out.1 (fun e => HBa.out.2 (by injection e)))).trans (HCa.out j hj))
    have HLe := Lib.hid (show c < w.heap.size from HS.out.cu.lt)
    clear HQ HC HS HCa
    go_wp2_with fail
    go_loopg [33] (l.length + 2) (fun g v33 w' => ∃ i : Nat, v33 = .int .i64 (i : Int) ∧ Hid (i ≤ l.length ∧ l.length < g + i) ∧ Hid (RW b off (fld (hideN key n l) (atN key n 0 l.length) i) w') ∧ Hid (w5.grownBy w' (some b)))
    case atStart => exact ⟨0, rfl, Lib.hid ⟨by omega, by omega⟩, Lib.hid (by rw [fld_zero]; exact HRW.out), Lib.hid (World.grownBy.refl _ _)⟩
    case round =>
      obtain ⟨i, rfl, HJ, HR, HG⟩ := hrel
      cases gk with
      | zero => have := HJ.out; omega
      | succ g1 =>
        by_cases hi : i < l.length
        · have HJ' := Lib.hid (show i < l.length ∧ l.length < (g1 + 1) + i from ⟨hi, HJ.out.2⟩)
          have z0 : (i : Int) < (l.length : Int) := by omega
          have z1 : (0 : Int) ≤ (i : Int) := by omega
          have hfl : (fld (hideN key n l) (atN key n 0 l.length) i).length = l.length := by rw [fld_length (by rw [hideN_len, atN_len]) (by rw [hideN_len]; omega), atN_len]
          have c1 := HR.out.cell (j := i) (by rw [hfl]; exact hi)
          rw [fld_get (by rw [hideN_len, atN_len]) (by rw [hideN_len]; exact hi), atN_get _ _ _ hi, Nat.zero_add] at c1
          have f1 := HR.out.fz (off + i)
          have c2 := (World.cell?_of_block (w := w5) (a := ⟨ba, oa + i, none⟩) (HG.out.block ba (by have := HG5.out.size; have := HBa.out.1; omega) (fun e => by injection e with e; have := HBb.out; have := HBa.out.1; omega))).trans (HCa5.out i hi)
          obtain ⟨va, hva⟩ : ∃ y, sb key n i = y := ⟨_, rfl⟩
          obtain ⟨vb, hvb⟩ : ∃ y, l.getD i 0 = y := ⟨_, rfl⟩
          have x1 := xor_u8 va vb (by rw [← hva]; exact sb_lt HK8.out _ _) (by rw [← hvb]; exact getD_lt0 (by decide) _ HL8.out)
          have hs := fld_step (new := hideN key n l) (old := atN key n 0 l.length) (by rw [hideN_len, atN_len]) (by rw [hideN_len]; exact hi)
          rw [hideN_get _ _ _ hi, hva, hvb, Nat.xor_comm] at hs
          have HSt := Lib.hid hs
          have HFl := Lib.hid hfl
          rw [hva] at c1
          rw [hvb] at c2
          clear hva hvb hs hfl hi HJ
          generalize va ^^^ vb = vx at *
          go_wp2_with fail
          clear c1 c2 f1 x1
          go_roundg g1
          case measure => have := HJ'.out; omega
          case rel =>
            have hx := HR.out.set (i := i) (by rw [HFl.out]; exact HJ'.out.1) vx
            rw [HSt.out] at hx
            exact ⟨i + 1, by go_num, Lib.hid (by have := HJ'.out; omega), Lib.hid hx, Lib.hid (HG.out.trans (grown_set _ _ _ _))⟩
        · obtain rfl : i = l.length := by have := HJ.out; omega
          clear hi HJ
          have hr := HR.out
          have hfa := fld_all (new := hideN key n l) (old := atN key n 0 l.length) (by rw [hideN_len, atN_len])
          rw [hideN_len] at hfa
          rw [hfa] at hr
          have HX := Lib.hid hr
          clear hr hfa
          go_wp2_with fail
          go_ret2
          exact ⟨.slice (some ⟨b, off, none⟩) l.length l.length, rfl, .inr ⟨b, off, by rw [hideN_len], HBb.out, HX.out, by rw [hideN_len]; omega⟩, HCU.out.grown' HG.out (by have := HBb.out; have := HLe.out; omega), grown_own' HG5.out HG.out HBb.out⟩
end Go.Proofs.Ytblnclooobggnaa.A

namespace Go.Proofs.Ytblnclooobggnaa.H

/-- a word turned down -/
def rot (x n : Nat) : Nat := x / 2 ^ n + (x % 2 ^ n) * 2 ^ (32 - n)
def add32 (a b : Nat) : Nat := (a + b) % 4294967296
theorem add32_lt (a b : Nat) : add32 a b < 4294967296 := Nat.mod_lt _ (by decide)
theorem rot_lt {x n : Nat} (hn : n ≤ 32) (hx : x < 4294967296) : rot x n < 4294967296 := by
  unfold rot
  have e : (4294967296 : Nat) = 2 ^ n * 2 ^ (32 - n) := by
    rw [← Nat.pow_add, show n + (32 - n) = 32 from by omega]
  have h1 : x / 2 ^ n < 2 ^ (32 - n) := Nat.div_lt_of_lt_mul (by rw [← e]; exact hx)
  have h2 : x % 2 ^ n + 1 ≤ 2 ^ n := Nat.mod_lt _ (Nat.two_pow_pos n)
  have h3 := Nat.mul_le_mul_right (2 ^ (32 - n)) h2
  rw [Nat.add_mul, Nat.one_mul, ← e] at h3
  omega
def begN : List Nat := [0x6a09e667, 0xbb67ae85, 0x3c6ef372, 0xa54ff53a, 0x510e527f, 0x9b05688c, 0x1f83d9ab, 0x5be0cd19]
def kN : List Nat := [
  0x428a2f98, 0x71374491, 0xb5c0fbcf, 0xe9b5dba5, 0x3956c25b, 0x59f111f1, 0x923f82a4, 0xab1c5ed5,
  0xd807aa98, 0x12835b01, 0x243185be, 0x550c7dc3, 0x72be5d74, 0x80deb1fe, 0x9bdc06a7, 0xc19bf174,
  0xe49b69c1, 0xefbe4786, 0x0fc19dc6, 0x240ca1cc, 0x2de92c6f, 0x4a7484aa, 0x5cb0a9dc, 0x76f988da,
  0x983e5152, 0xa831c66d, 0xb00327c8, 0xbf597fc7, 0xc6e00bf3, 0xd5a79147, 0x06ca6351, 0x14292967,
  0x27b70a85, 0x2e1b2138, 0x4d2c6dfc, 0x53380d13, 0x650a7354, 0x766a0abb, 0x81c2c92e, 0x92722c85,
  0xa2bfe8a1, 0xa81a664b, 0xc24b8b70, 0xc76c51a3, 0xd192e819, 0xd6990624, 0xf40e3585, 0x106aa070,
  0x19a4c116, 0x1e376c08, 0x2748774c, 0x34b0bcb5, 0x391c0cb3, 0x4ed8aa4a, 0x5b9cca4f, 0x682e6ff3,
  0x748f82ee, 0x78a5636f, 0x84c87814, 0x8cc70208, 0x90befffa, 0xa4506ceb, 0xbef9a3f7, 0xc67178f2]
/-- four bytes -/
def wordN (b : List Nat) (i : Nat) : Nat := b.getD i 0 * 16777216 + b.getD (i + 1) 0 * 65536 + b.getD (i + 2) 0 * 256 + b.getD (i + 3) 0
def sg0 (x : Nat) : Nat := rot x 7 ^^^ rot x 18 ^^^ x / 8
def sg1 (x : Nat) : Nat := rot x 17 ^^^ rot x 19 ^^^ x / 1024
def bs0 (x : Nat) : Nat := rot x 2 ^^^ rot x 13 ^^^ rot x 22
def bs1 (x : Nat) : Nat := rot x 6 ^^^ rot x 11 ^^^ rot x 25
/-- the words ahead, sixteen of them -/
def bufS (i : Nat) (w : List Nat) : List Nat :=
  if 16 ≤ i then w.set (i % 16) (add32 (w.getD (i % 16) 0) (add32 (add32 (w.getD ((i + 9) % 16) 0) (sg0 (w.getD ((i + 1) % 16) 0))) (sg1 (w.getD ((i + 14) % 16) 0)))) else w
/-- one round, of the word x and the constant k -/
def rnd (v : List Nat) (k x : Nat) : List Nat :=
  let t := add32 (add32 (add32 (add32 (v.getD 7 0) (bs1 (v.getD 4 0))) (v.getD 6 0 ^^^ (v.getD 4 0 &&& (v.getD 5 0 ^^^ v.getD 6 0)))) k) x
  let u := add32 (bs0 (v.getD 0 0)) ((v.getD 0 0 &&& v.getD 1 0) ||| (v.getD 2 0 &&& (v.getD 0 0 ||| v.getD 1 0)))
  [add32 t u, v.getD 0 0, v.getD 1 0, v.getD 2 0, add32 (v.getD 3 0) t, v.getD 4 0, v.getD 5 0, v.getD 6 0]
def step (i : Nat) (p : List Nat × List Nat) : List Nat × List Nat :=
  let w := bufS i p.1
  (w, rnd p.2 (kN.getD i 0) (w.getD (i % 16) 0))
/-- i rounds -/
def rounds : Nat → List Nat × List Nat → List Nat × List Nat
  | 0, p => p
  | i + 1, p => step i (rounds i p)
def mixN (s b : List Nat) : List Nat := List.zipWith add32 (rounds 64 ((List.range 16).map (fun i => wordN b (4 * i)), s)).2 s
/-- whole blocks go in; what is left -/
def blocks : Nat → List Nat → List Nat → List Nat
  | 0, s, _ => s
  | n + 1, s, b => blocks n (mixN s (b.take 64)) (b.drop 64)
def padN (l : List Nat) (n : Nat) : List Nat := l ++ 128 :: (List.replicate ((119 - l.length % 64) % 64) 0 ++ (List.range 8).map (fun i => n * 8 / 256 ^ (7 - i) % 256))
def outN (v : List Nat) : List Nat := v.flatMap (fun x => [x / 16777216 % 256, x / 65536 % 256, x / 256 % 256, x % 256])
def shaN (l : List Nat) : List Nat := let p := padN l l.length; outN (blocks (p.length / 64) begN p)
theorem abc : shaN [97, 98, 99] = [0xba, 0x78, 0x16, 0xbf, 0x8f, 0x01, 0xcf, 0xea, 0x41, 0x41, 0x40, 0xde, 0x5d, 0xae, 0x22, 0x23, 0xb0, 0x03, 0x61, 0xa3, 0x96, 0x17, 0x7a, 0x9c, 0xb4, 0x10, 0xff, 0x61, 0xf2, 0x00, 0x15, 0xad] := by decide +kernel
end Go.Proofs.Ytblnclooobggnaa.H

namespace Go.Proofs.Ytblnclooobggnaa.H
open Go.RowKit Go.Proofs.Ytblnclooobggnaa.L Go.Proofs.YtblnclooobggnaaW.PrintWords

def u32s (l : List Nat) : Array Value := (l.map (fun x : Nat => Value.int .u32 (x : Int))).toArray
set_option maxRecDepth 100000 in
set_option maxHeartbeats 800000 in
theorem begin_any (w : World) : Calls Try.prog 86 #[] w fun e w' => e = .returned (.agg (u32s begN)) ∧ Below w.heap.size w w' := by
  go_enter Try.func86, Try.ntmps86
  go_wp2_with fail
  go_outline
  exact bodyPost_ret (v := .agg (u32s begN)) (by simp [results, Try.results86, go_sem, u32s, begN]) rfl ⟨rfl, (Below.refl _ _).alloc (Nat.le_refl _) _⟩
theorem rot_or (x n : Nat) (h1 : 1 ≤ n) (h2 : n ≤ 31) (hx : x < 4294967296) : bits .or .u32 (((x * 2 ^ (32 - n) % 4294967296 : Nat) : Int)) ((x / 2 ^ n : Nat) : Int) = ((rot x n : Nat) : Int) := by
  have e : (4294967296 : Nat) = 2 ^ n * 2 ^ (32 - n) := by
    rw [← Nat.pow_add, show n + (32 - n) = 32 from by omega]
  have e2 : x * 2 ^ (32 - n) % 4294967296 = (x % 2 ^ n) * 2 ^ (32 - n) := by
    rw [e, Nat.mul_mod_mul_right]
  have hlo : x / 2 ^ n < 2 ^ (32 - n) := Nat.div_lt_of_lt_mul (by rw [← e]; exact hx)
  have hhi : x * 2 ^ (32 - n) % 4294967296 < 4294967296 := Nat.mod_lt _ (by decide)
  have hle : x / 2 ^ n < 4294967296 := Nat.lt_of_le_of_lt (Nat.div_le_self _ _) hx
  rw [e2] at hhi ⊢
  have hm : ((x % 2 ^ n) * 2 ^ (32 - n)) % 2 ^ (32 - n) = 0 := Nat.mul_mod_left _ _
  generalize hA : (x % 2 ^ n) * 2 ^ (32 - n) = hi at hhi hm ⊢
  generalize hB : x / 2 ^ n = lo at hlo hle ⊢
  have := bits_join .u32 32 (by decide) wraps_u32 (32 - n) (hi : Int) (lo : Int) (by omega) (by exact_mod_cast hm) (by omega) (by omega) (by exact_mod_cast hlo) (by omega)
  rw [this]
  unfold rot
  rw [hA, hB]
  omega
set_option maxRecDepth 100000 in
set_option maxHeartbeats 800000 in
theorem rotl2 (x : Nat) (w : World) (hx : x < 4294967296) : Calls Try.prog 108 #[.int .u32 (x : Int), .int .i64 (-2)] w fun e w' => e = .returned (.int .u32 (rot x 2 : Nat)) ∧ w' = w := by
  have hx0 : (0 : Int) ≤ (x : Int) := by omega
  have r0 : bits BinOp.and IntKind.u64 (IntKind.u64.wrap (-2)) 31 = 30 := by kernel_rfl
  have HR := Lib.hid (rot_or x 2 (by decide) (by decide) hx)
  go_enter Try.func108, Try.ntmps108
  go_wp2_with fail
  go_ret
  exact ⟨by rw [← HR.out]; simp, rfl⟩
set_option maxRecDepth 100000 in
theorem turn2 (x : Nat) (w : World) (hx : x < 4294967296) : Calls Try.prog 98 #[.int .u32 (x : Int), .int .i64 2] w fun e w' => e = .returned (.int .u32 (rot x 2 : Nat)) ∧ w' = w := by
  have H := Lib.hid (rotl2 x w hx)
  go_enter Try.func98, Try.ntmps98
  go_wp2_with fail
  refine H.out.mono ?_
  rintro e w1 ⟨rfl, h1⟩
  rw [h1]
  go_wp2_with fail
  go_ret
  exact ⟨rfl, rfl⟩
set_option maxRecDepth 100000 in
set_option maxHeartbeats 800000 in
theorem rotl6 (x : Nat) (w : World) (hx : x < 4294967296) : Calls Try.prog 108 #[.int .u32 (x : Int), .int .i64 (-6)] w fun e w' => e = .returned (.int .u32 (rot x 6 : Nat)) ∧ w' = w := by
  have hx0 : (0 : Int) ≤ (x : Int) := by omega
  have r0 : bits BinOp.and IntKind.u64 (IntKind.u64.wrap (-6)) 31 = 26 := by kernel_rfl
  have HR := Lib.hid (rot_or x 6 (by decide) (by decide) hx)
  go_enter Try.func108, Try.ntmps108
  go_wp2_with fail
  go_ret
  exact ⟨by rw [← HR.out]; simp, rfl⟩
set_option maxRecDepth 100000 in
theorem turn6 (x : Nat) (w : World) (hx : x < 4294967296) : Calls Try.prog 98 #[.int .u32 (x : Int), .int .i64 6] w fun e w' => e = .returned (.int .u32 (rot x 6 : Nat)) ∧ w' = w := by
  have H := Lib.hid (rotl6 x w hx)
  go_enter Try.func98, Try.ntmps98
  go_wp2_with fail
  refine H.out.mono ?_
  rintro e w1 ⟨rfl, h1⟩
  rw [h1]
  go_wp2_with fail
  go_ret
  exact ⟨rfl, rfl⟩
set_option maxRecDepth 100000 in
set_option maxHeartbeats 800000 in
theorem rotl7 (x : Nat) (w : World) (hx : x < 4294967296) : Calls Try.prog 108 #[.int .u32 (x : Int), .int .i64 (-7)] w fun e w' => e = .returned (.int .u32 (rot x 7 : Nat)) ∧ w' = w := by
  have hx0 : (0 : Int) ≤ (x : Int) := by omega
  have r0 : bits BinOp.and IntKind.u64 (IntKind.u64.wrap (-7)) 31 = 25 := by kernel_rfl
  have HR := Lib.hid (rot_or x 7 (by decide) (by decide) hx)
  go_enter Try.func108, Try.ntmps108
  go_wp2_with fail
  go_ret
  exact ⟨by rw [← HR.out]; simp, rfl⟩
set_option maxRecDepth 100000 in
theorem turn7 (x : Nat) (w : World) (hx : x < 4294967296) : Calls Try.prog 98 #[.int .u32 (x : Int), .int .i64 7] w fun e w' => e = .returned (.int .u32 (rot x 7 : Nat)) ∧ w' = w := by
  have H := Lib.hid (rotl7 x w hx)
  go_enter Try.func98, Try.ntmps98
  go_wp2_with fail
  refine H.out.mono ?_
  rintro e w1 ⟨rfl, h1⟩
  rw [h1]
  go_wp2_with fail
  go_ret
  exact ⟨rfl, rfl⟩
set_option maxRecDepth 100000 in
set_option maxHeartbeats 800000 in
theorem rotl11 (x : Nat) (w : World) (hx : x < 4294967296) : Calls Try.prog 108 #[.int .u32 (x : Int), .int .i64 (-11)] w fun e w' => e = .returned (.int .u32 (rot x 11 : Nat)) ∧ w' = w := by
  have hx0 : (0 : Int) ≤ (x : Int) := by omega
  have r0 : bits BinOp.and IntKind.u64 (IntKind.u64.wrap (-11)) 31 = 21 := by kernel_rfl
  have HR := Lib.hid (rot_or x 11 (by decide) (by decide) hx)
  go_enter Try.func108, Try.ntmps108
  go_wp2_with fail
  go_ret
  exact ⟨by rw [← HR.out]; simp, rfl⟩
set_option maxRecDepth 100000 in
theorem turn11 (x : Nat) (w : World) (hx : x < 4294967296) : Calls Try.prog 98 #[.int .u32 (x : Int), .int .i64 11] w fun e w' => e = .returned (.int .u32 (rot x 11 : Nat)) ∧ w' = w := by
  have H := Lib.hid (rotl11 x w hx)
  go_enter Try.func98, Try.ntmps98
  go_wp2_with fail
  refine H.out.mono ?_
  rintro e w1 ⟨rfl, h1⟩
  rw [h1]
  go_wp2_with fail
  go_ret
  exact ⟨rfl, rfl⟩
set_option maxRecDepth 100000 in
set_option maxHeartbeats 800000 in
theorem rotl13 (x : Nat) (w : World) (hx : x < 4294967296) : Calls Try.prog 108 #[.int .u32 (x : Int), .int .i64 (-13)] w fun e w' => e = .returned (.int .u32 (rot x 13 : Nat)) ∧ w' = w := by
  have hx0 : (0 : Int) ≤ (x : Int) := by omega
  have r0 : bits BinOp.and IntKind.u64 (IntKind.u64.wrap (-13)) 31 = 19 := by kernel_rfl
  have HR := Lib.hid (rot_or x 13 (by decide) (by decide) hx)
  go_enter Try.func108, Try.ntmps108
  go_wp2_with fail
  go_ret
  exact ⟨by rw [← HR.out]; simp, rfl⟩
set_option maxRecDepth 100000 in
theorem turn13 (x : Nat) (w : World) (hx : x < 4294967296) : Calls Try.prog 98 #[.int .u32 (x : Int), .int .i64 13] w fun e w' => e = .returned (.int .u32 (rot x 13 : Nat)) ∧ w' = w := by
  have H := Lib.hid (rotl13 x w hx)
  go_enter Try.func98, Try.ntmps98
  go_wp2_with fail
  refine H.out.mono ?_
  rintro e w1 ⟨rfl, h1⟩
  rw [h1]
  go_wp2_with fail
  go_ret
  exact ⟨rfl, rfl⟩
set_option maxRecDepth 100000 in
set_option maxHeartbeats 800000 in
theorem rotl17 (x : Nat) (w : World) (hx : x < 4294967296) : Calls Try.prog 108 #[.int .u32 (x : Int), .int .i64 (-17)] w fun e w' => e = .returned (.int .u32 (rot x 17 : Nat)) ∧ w' = w := by
  have hx0 : (0 : Int) ≤ (x : Int) := by omega
  have r0 : bits BinOp.and IntKind.u64 (IntKind.u64.wrap (-17)) 31 = 15 := by kernel_rfl
  have HR := Lib.hid (rot_or x 17 (by decide) (by decide) hx)
  go_enter Try.func108, Try.ntmps108
  go_wp2_with fail
  go_ret
  exact ⟨by rw [← HR.out]; simp, rfl⟩
set_option maxRecDepth 100000 in
theorem turn17 (x : Nat) (w : World) (hx : x < 4294967296) : Calls Try.prog 98 #[.int .u32 (x : Int), .int .i64 17] w fun e w' => e = .returned (.int .u32 (rot x 17 : Nat)) ∧ w' = w := by
  have H := Lib.hid (rotl17 x w hx)
  go_enter Try.func98, Try.ntmps98
  go_wp2_with fail
  refine H.out.mono ?_
  rintro e w1 ⟨rfl, h1⟩
  rw [h1]
  go_wp2_with fail
  go_ret
  exact ⟨rfl, rfl⟩
set_option maxRecDepth 100000 in
set_option maxHeartbeats 800000 in
theorem rotl18 (x : Nat) (w : World) (hx : x < 4294967296) : Calls Try.prog 108 #[.int .u32 (x : Int), .int .i64 (-18)] w fun e w' => e = .returned (.int .u32 (rot x 18 : Nat)) ∧ w' = w := by
  have hx0 : (0 : Int) ≤ (x : Int) := by omega
  have r0 : bits BinOp.and IntKind.u64 (IntKind.u64.wrap (-18)) 31 = 14 := by kernel_rfl
  have HR := Lib.hid (rot_or x 18 (by decide) (by decide) hx)
  go_enter Try.func108, Try.ntmps108
  go_wp2_with fail
  go_ret
  exact ⟨by rw [← HR.out]; simp, rfl⟩
set_option maxRecDepth 100000 in
theorem turn18 (x : Nat) (w : World) (hx : x < 4294967296) : Calls Try.prog 98 #[.int .u32 (x : Int), .int .i64 18] w fun e w' => e = .returned (.int .u32 (rot x 18 : Nat)) ∧ w' = w := by
  have H := Lib.hid (rotl18 x w hx)
  go_enter Try.func98, Try.ntmps98
  go_wp2_with fail
  refine H.out.mono ?_
  rintro e w1 ⟨rfl, h1⟩
  rw [h1]
  go_wp2_with fail
  go_ret
  exact ⟨rfl, rfl⟩
set_option maxRecDepth 100000 in
set_option maxHeartbeats 800000 in
theorem rotl19 (x : Nat) (w : World) (hx : x < 4294967296) : Calls Try.prog 108 #[.int .u32 (x : Int), .int .i64 (-19)] w fun e w' => e = .returned (.int .u32 (rot x 19 : Nat)) ∧ w' = w := by
  have hx0 : (0 : Int) ≤ (x : Int) := by omega
  have r0 : bits BinOp.and IntKind.u64 (IntKind.u64.wrap (-19)) 31 = 13 := by kernel_rfl
  have HR := Lib.hid (rot_or x 19 (by decide) (by decide) hx)
  go_enter Try.func108, Try.ntmps108
  go_wp2_with fail
  go_ret
  exact ⟨by rw [← HR.out]; simp, rfl⟩
set_option maxRecDepth 100000 in
theorem turn19 (x : Nat) (w : World) (hx : x < 4294967296) : Calls Try.prog 98 #[.int .u32 (x : Int), .int .i64 19] w fun e w' => e = .returned (.int .u32 (rot x 19 : Nat)) ∧ w' = w := by
  have H := Lib.hid (rotl19 x w hx)
  go_enter Try.func98, Try.ntmps98
  go_wp2_with fail
  refine H.out.mono ?_
  rintro e w1 ⟨rfl, h1⟩
  rw [h1]
  go_wp2_with fail
  go_ret
  exact ⟨rfl, rfl⟩
set_option maxRecDepth 100000 in
set_option maxHeartbeats 800000 in
theorem rotl22 (x : Nat) (w : World) (hx : x < 4294967296) : Calls Try.prog 108 #[.int .u32 (x : Int), .int .i64 (-22)] w fun e w' => e = .returned (.int .u32 (rot x 22 : Nat)) ∧ w' = w := by
  have hx0 : (0 : Int) ≤ (x : Int) := by omega
  have r0 : bits BinOp.and IntKind.u64 (IntKind.u64.wrap (-22)) 31 = 10 := by kernel_rfl
  have HR := Lib.hid (rot_or x 22 (by decide) (by decide) hx)
  go_enter Try.func108, Try.ntmps108
  go_wp2_with fail
  go_ret
  exact ⟨by rw [← HR.out]; simp, rfl⟩
set_option maxRecDepth 100000 in
theorem turn22 (x : Nat) (w : World) (hx : x < 4294967296) : Calls Try.prog 98 #[.int .u32 (x : Int), .int .i64 22] w fun e w' => e = .returned (.int .u32 (rot x 22 : Nat)) ∧ w' = w := by
  have H := Lib.hid (rotl22 x w hx)
  go_enter Try.func98, Try.ntmps98
  go_wp2_with fail
  refine H.out.mono ?_
  rintro e w1 ⟨rfl, h1⟩
  rw [h1]
  go_wp2_with fail
  go_ret
  exact ⟨rfl, rfl⟩
set_option maxRecDepth 100000 in
set_option maxHeartbeats 800000 in
theorem rotl25 (x : Nat) (w : World) (hx : x < 4294967296) : Calls Try.prog 108 #[.int .u32 (x : Int), .int .i64 (-25)] w fun e w' => e = .returned (.int .u32 (rot x 25 : Nat)) ∧ w' = w := by
  have hx0 : (0 : Int) ≤ (x : Int) := by omega
  have r0 : bits BinOp.and IntKind.u64 (IntKind.u64.wrap (-25)) 31 = 7 := by kernel_rfl
  have HR := Lib.hid (rot_or x 25 (by decide) (by decide) hx)
  go_enter Try.func108, Try.ntmps108
  go_wp2_with fail
  go_ret
  exact ⟨by rw [← HR.out]; simp, rfl⟩
set_option maxRecDepth 100000 in
theorem turn25 (x : Nat) (w : World) (hx : x < 4294967296) : Calls Try.prog 98 #[.int .u32 (x : Int), .int .i64 25] w fun e w' => e = .returned (.int .u32 (rot x 25 : Nat)) ∧ w' = w := by
  have H := Lib.hid (rotl25 x w hx)
  go_enter Try.func98, Try.ntmps98
  go_wp2_with fail
  refine H.out.mono ?_
  rintro e w1 ⟨rfl, h1⟩
  rw [h1]
  go_wp2_with fail
  go_ret
  exact ⟨rfl, rfl⟩
end Go.Proofs.Ytblnclooobggnaa.H

namespace Go.Proofs.Ytblnclooobggnaa.H
open Go.RowKit Go.Proofs.Ytblnclooobggnaa.L Go.Proofs.YtblnclooobggnaaW.PrintWords
theorem info_96 : (Try.prog.info? 162).map (·.size) = some 64 := by kernel_rfl
theorem u32s_size (l : List Nat) : (u32s l).size = l.length := by simp [u32s]
theorem u32s_one (l : List Nat) : (u32s l).all (·.oneCell') = true := by
  unfold u32s
  rw [List.all_toArray, List.all_map]
  exact List.all_eq_true.2 (fun x _ => rfl)
section
variable {P : Program} {ops : Array Oper} {rest : List Oper} {o : Oper} {a : Act} {w : World} {Q : Exit → Act → World → Prop}
theorem wpList_build {t : TypeId} {es} (v : Value) (hgd : o.guard = none) (_ho : o.op = .build t es) (hrun : (execOp a.eval o).run P w = .ok (.value v) w) (h : wpList P ops Q rest (a.put o.dst v) w) : wpList P ops Q (o :: rest) a w := by
  refine wpList_plain hgd fun K hK => ?_
  unfold Oper.wp
  rw [hrun]
  exact hK _ _ h
theorem wpList_st {t : TypeId} {p x : Operand} (w1 : World) (hgd : o.guard = none) (_ho : o.op = .store t p x) (hN : o.dst = none) (hrun : (execOp a.eval o).run P w = .ok .skip w1) (h : wpList P ops Q rest a w1) : wpList P ops Q (o :: rest) a w := by
  refine wpList_plain hgd fun K hK => ?_
  unfold Oper.wp
  rw [hrun]
  show K (a.put o.dst undef) w1
  rw [hN]
  exact hK _ _ h
theorem wpList_st_new {t : TypeId} {p x : Operand} (c c' : Array Value) (hgd : o.guard = none) (ho : o.op = .store t p x) (hN : o.dst = none) (hp : a.eval p = .pointer (some ⟨w.heap.size, 0, none⟩)) (hx : a.eval x = .agg c')
    (hi : (P.info? t).map (·.size) = some c'.size) (hs : c.size = c'.size) (h1 : c'.all (·.oneCell') = true) (h : wpList P ops Q rest a (w.alloc (.cells c' t))) : wpList P ops Q (o :: rest) a (w.alloc (.cells c t)) := by
  refine wpList_st _ hgd ho hN ?_ h
  have := run_storeAt_new (P := P) w t c c' hi hs h1
  simp only [execOp, ho, hp, hx, Sem.run_bind, this, Result.andThen]
  rfl
end
set_option maxRecDepth 100000 in
set_option maxHeartbeats 1600000 in
theorem constants_any (w : World) : Calls Try.prog 96 #[] w fun e w' => e = .returned (.agg (u32s kN)) ∧ Below w.heap.size w w' := by
  go_enter Try.func96, Try.ntmps96
  go_wp2_with (refine wpList_build (.agg (u32s kN)) rfl rfl (by kernel_rfl) ?_; refine wpList_st_new _ (u32s kN) rfl rfl rfl rfl rfl (by rw [u32s_size]; exact info_96) (by rw [u32s_size]; rfl) (u32s_one _) ?_)
  have hl := run_loadVar_new (P := Try.prog) w 162 (u32s kN) 64 45 Try.underlying162 (by rw [u32s_size]; exact info_96)
  exact bodyPost_ret (v := .agg (u32s kN)) (by simp [results, Try.results96, hl, Act.put, asAddr]) rfl ⟨rfl, (Below.refl _ _).alloc (Nat.le_refl _) _⟩
end Go.Proofs.Ytblnclooobggnaa.H

namespace Go.Proofs.Ytblnclooobggnaa.H

theorem blocks_add : ∀ (m n : Nat) (s l : List Nat), blocks (m + n) s l = blocks n (blocks m s l) (l.drop (64 * m))
  | 0, n, s, l => by simp [blocks]
  | m + 1, n, s, l => by
    rw [show m + 1 + n = (m + n) + 1 from by omega]
    show blocks (m + n) (mixN s (l.take 64)) (l.drop 64) = blocks n (blocks m (mixN s (l.take 64)) (l.drop 64)) _
    rw [blocks_add m n, List.drop_drop, show 64 + 64 * m = 64 * (m + 1) from by omega]
theorem blocks_app : ∀ (n : Nat) (s l m : List Nat), 64 * n ≤ l.length → blocks n s (l ++ m) = blocks n s l
  | 0, _, _, _, _ => rfl
  | n + 1, s, l, m, h => by
    show blocks n (mixN s ((l ++ m).take 64)) ((l ++ m).drop 64) = blocks n (mixN s (l.take 64)) (l.drop 64)
    rw [List.take_append_of_le_length (by omega), List.drop_append_of_le_length (by omega), blocks_app n _ _ _ (by simp; omega)]
/-- the state behind all whole blocks -/
def stN (s l : List Nat) : List Nat := blocks (l.length / 64) s l
/-- what is left -/
def lfN (l : List Nat) : List Nat := l.drop (64 * (l.length / 64))
theorem lfN_length (l : List Nat) : (lfN l).length = l.length % 64 := by
  unfold lfN
  rw [List.length_drop]
  omega
theorem split_len (l b : List Nat) : (l ++ b).length / 64 = l.length / 64 + (lfN l ++ b).length / 64 := by
  rw [List.length_append, List.length_append, lfN_length]
  omega
theorem drop_app (l b : List Nat) : (l ++ b).drop (64 * (l.length / 64)) = lfN l ++ b := by
  unfold lfN
  rw [List.drop_append_of_le_length (by omega)]
theorem stN_app (s l b : List Nat) : stN s (l ++ b) = stN (stN s l) (lfN l ++ b) := by
  unfold stN
  rw [split_len, blocks_add, drop_app, blocks_app (l.length / 64) s l b (by omega)]
theorem lfN_app (l b : List Nat) : lfN (l ++ b) = lfN (lfN l ++ b) := by
  conv => lhs; unfold lfN
  rw [split_len, Nat.mul_add, ← List.drop_drop, drop_app]
  rfl
theorem stN_small {s l : List Nat} (h : l.length < 64) : stN s l = s := by
  unfold stN
  rw [Nat.div_eq_of_lt h]
  rfl
theorem lfN_small {l : List Nat} (h : l.length < 64) : lfN l = l := by
  unfold lfN
  rw [Nat.div_eq_of_lt h]
  rfl
theorem stN_step {s l : List Nat} (h : 64 ≤ l.length) : stN s l = stN (mixN s (l.take 64)) (l.drop 64) := by
  unfold stN
  rw [show l.length / 64 = (l.drop 64).length / 64 + 1 from by rw [List.length_drop]; omega]
  rfl
theorem lfN_step {l : List Nat} (h : 64 ≤ l.length) : lfN l = lfN (l.drop 64) := by
  unfold lfN
  rw [List.drop_drop, show l.length / 64 = (l.drop 64).length / 64 + 1 from by rw [List.length_drop]; omega, show 64 * ((l.drop 64).length / 64 + 1) = 64 + 64 * ((l.drop 64).length / 64) from by omega]
/-- what is put behind a text of r bytes (of whole blocks more), n in all -/
def endN (r n : Nat) : List Nat := 128 :: (List.replicate ((119 - r % 64) % 64) 0 ++ (List.range 8).map (fun i => n * 8 / 256 ^ (7 - i) % 256))
theorem padN_eq (l : List Nat) (n : Nat) : padN l n = l ++ endN l.length n := rfl
theorem endN_mod (r n : Nat) : endN (r % 64) n = endN r n := by
  unfold endN
  rw [Nat.mod_mod]
theorem endN_length (r n : Nat) : (r + (endN r n).length) % 64 = 0 := by
  unfold endN
  simp only [List.length_cons, List.length_append, List.length_replicate, List.length_map, List.length_range]
  omega
theorem endN_lt (r n : Nat) : ∀ x ∈ endN r n, x < 256 := by
  intro x hx
  unfold endN at hx
  simp only [List.mem_cons, List.mem_append, List.mem_replicate, List.mem_map, List.mem_range] at hx
  rcases hx with rfl | ⟨_, rfl⟩ | ⟨i, _, rfl⟩
  · decide
  · decide
  · exact Nat.mod_lt _ (by decide)
/-- the sum, of the state and of what is left -/
theorem sha_left (l : List Nat) : outN (stN (stN begN l) (padN (lfN l) l.length)) = shaN l := by
  unfold shaN
  simp only
  rw [show blocks ((padN l l.length).length / 64) begN (padN l l.length) = stN begN (padN l l.length) from rfl]
  rw [padN_eq l, stN_app, padN_eq, lfN_length, endN_mod]
theorem mixN_length {s b : List Nat} (h : s.length = 8) : (mixN s b).length = 8 := by
  have key : ∀ (i : Nat) (p : List Nat × List Nat), p.2.length = 8 → (rounds i p).2.length = 8 := by
    intro i p hp
    cases i with
    | zero => exact hp
    | succ i => rfl
  unfold mixN
  rw [List.length_zipWith, key 64 _ h, h]
  rfl
theorem mixN_lt {s b : List Nat} : ∀ x ∈ mixN s b, x < 4294967296 := by
  intro x hx
  unfold mixN at hx
  rw [List.mem_iff_getElem] at hx
  obtain ⟨i, hi, rfl⟩ := hx
  rw [List.getElem_zipWith]
  exact add32_lt _ _
theorem blocks_length : ∀ (n : Nat) {s : List Nat} (l : List Nat), s.length = 8 → (blocks n s l).length = 8
  | 0, _, _, h => h
  | n + 1, _, l, h => blocks_length n (l.drop 64) (mixN_length h)
theorem blocks_lt : ∀ (n : Nat) {s : List Nat} (l : List Nat), (∀ x ∈ s, x < 4294967296) → ∀ x ∈ blocks n s l, x < 4294967296
  | 0, _, _, h => h
  | n + 1, _, l, _ => blocks_lt n (l.drop 64) mixN_lt
theorem begN_length : begN.length = 8 := rfl
theorem begN_lt : ∀ x ∈ begN, x < 4294967296 := by decide
theorem stN_length {s : List Nat} (l : List Nat) (h : s.length = 8) : (stN s l).length = 8 := blocks_length _ l h
theorem stN_lt {s : List Nat} (l : List Nat) (h : ∀ x ∈ s, x < 4294967296) : ∀ x ∈ stN s l, x < 4294967296 := blocks_lt _ l h
theorem outN_length {v : List Nat} (h : v.length = 8) : (outN v).length = 32 := by
  have : ∀ (v : List Nat), (outN v).length = 4 * v.length := by
    intro v
    induction v with
    | nil => rfl
    | cons x v ih => rw [show outN (x :: v) = [x / 16777216 % 256, x / 65536 % 256, x / 256 % 256, x % 256] ++ outN v from rfl, List.length_append, ih]; simp; omega
  rw [this, h]
theorem shaN_length (l : List Nat) : (shaN l).length = 32 := outN_length (blocks_length _ _ rfl)
theorem outN_lt (v : List Nat) : ∀ x ∈ outN v, x < 256 := by
  intro x hx
  unfold outN at hx
  rw [List.mem_flatMap] at hx
  obtain ⟨y, _, h⟩ := hx
  simp only [List.mem_cons, List.not_mem_nil, or_false] at h
  rcases h with h | h | h | h <;> subst h <;> exact Nat.mod_lt _ (by decide)
theorem shaN_lt (l : List Nat) : ∀ x ∈ shaN l, x < 256 := outN_lt _
theorem outN_get {v : List Nat} {i k : Nat} (hi : i < v.length) (hk : k < 4) : (outN v).getD (4 * i + k) 0 = v.getD i 0 / 2 ^ (24 - 8 * k) % 256 := by
  induction v generalizing i with
  | nil => simp at hi
  | cons x v ih =>
    rw [show outN (x :: v) = [x / 16777216 % 256, x / 65536 % 256, x / 256 % 256, x % 256] ++ outN v from rfl]
    cases i with
    | zero =>
      rw [List.getD_eq_getElem?_getD, List.getElem?_append_left (by simp; omega)]
      have : k = 0 ∨ k = 1 ∨ k = 2 ∨ k = 3 := by omega
      rcases this with rfl | rfl | rfl | rfl <;> simp
    | succ i =>
      rw [List.getD_eq_getElem?_getD, List.getElem?_append_right (by simp; omega)]
      simp only [List.length_cons, List.length_nil]
      rw [show 4 * (i + 1) + k - (0 + 1 + 1 + 1 + 1) = 4 * i + k from by omega, ← List.getD_eq_getElem?_getD, ih (by simpa using hi)]
      rfl
end Go.Proofs.Ytblnclooobggnaa.H

namespace Go.Proofs.Ytblnclooobggnaa.H

def turn1 (x : Nat) : Nat := x / 2 + 2147483648 * (x % 2)
def turnN : Nat → Nat → Nat
  | 0, x => x
  | n + 1, x => turnN n (turn1 x)
theorem turn1_rot {x n : Nat} (hn : n < 32) : turn1 (rot x n) = rot x (n + 1) := by
  have e1 : x / 2 ^ n / 2 = x / 2 ^ (n + 1) := by rw [Nat.div_div_eq_div_mul, Nat.pow_succ]
  have e2 : x % 2 ^ (n + 1) = x % 2 ^ n + 2 ^ n * (x / 2 ^ n % 2) := by rw [Nat.pow_succ, Nat.mod_mul]
  have e3 : 2 ^ (32 - n) = 2 * 2 ^ (32 - (n + 1)) := by rw [show 32 - n = (32 - (n + 1)) + 1 from by omega, Nat.pow_succ, Nat.mul_comm]
  have e4 : 2 ^ n * 2 ^ (32 - (n + 1)) = 2147483648 := by rw [← Nat.pow_add, show n + (32 - (n + 1)) = 31 from by omega]
  unfold rot
  rw [e2, e3, ← e1, Nat.add_mul, show 2 ^ n * (x / 2 ^ n % 2) * 2 ^ (32 - (n + 1)) = (x / 2 ^ n % 2) * (2 ^ n * 2 ^ (32 - (n + 1))) from by ac_rfl, e4]
  generalize x / 2 ^ n = q
  rw [show x % 2 ^ n * (2 * 2 ^ (32 - (n + 1))) = 2 * (x % 2 ^ n * 2 ^ (32 - (n + 1))) from by ac_rfl]
  generalize x % 2 ^ n * 2 ^ (32 - (n + 1)) = r
  unfold turn1
  omega
theorem turnN_snoc : ∀ (n x : Nat), turnN (n + 1) x = turn1 (turnN n x)
  | 0, x => by rw [turnN, turnN, turnN]
  | n + 1, x => by rw [turnN, turnN_snoc n (turn1 x), turnN]
theorem rot0 (x : Nat) : rot x 0 = x := by
  unfold rot
  simp [Nat.mod_one]
theorem turnN_rot (x : Nat) : ∀ {n : Nat}, n ≤ 32 → turnN n x = rot x n := by
  intro n
  induction n with
  | zero => intro _; rw [turnN, rot0]
  | succ n ih => intro h; rw [turnN_snoc, ih (by omega), turn1_rot (by omega)]
def downN : Nat → Nat → Nat
  | 0, x => x
  | n + 1, x => downN n (x / 2)
theorem downN_eq : ∀ (n x : Nat), downN n x = x / 2 ^ n
  | 0, x => by simp [downN]
  | n + 1, x => by
    show downN n (x / 2) = _
    rw [downN_eq n, Nat.div_div_eq_div_mul, Nat.pow_succ, Nat.mul_comm]
theorem ch_eq {e f g : Nat} (he : e < 4294967296) (hg : g < 4294967296) : (e &&& f) ^^^ ((4294967295 - e) &&& g) = g ^^^ (e &&& (f ^^^ g)) := by
  apply Nat.eq_of_testBit_eq
  intro i
  have h1 : (4294967295 - e).testBit i = (decide (i < 32) && !e.testBit i) := by
    have := Nat.testBit_two_pow_sub_succ (n := 32) he i
    rwa [show 2 ^ 32 - (e + 1) = 4294967295 - e from by omega] at this
  simp only [Nat.testBit_xor, Nat.testBit_and, h1]
  by_cases hi : i < 32
  · simp only [hi, decide_true, Bool.true_and]
    cases e.testBit i <;> cases f.testBit i <;> cases g.testBit i <;> rfl
  · have hz : g.testBit i = false := Nat.testBit_lt_two_pow (Nat.lt_of_lt_of_le (show g < 2 ^ 32 from hg) (show 2 ^ 32 ≤ 2 ^ i from Nat.pow_le_pow_right (by decide) (by omega)))
    have hz2 : e.testBit i = false := Nat.testBit_lt_two_pow (Nat.lt_of_lt_of_le (show e < 2 ^ 32 from he) (show 2 ^ 32 ≤ 2 ^ i from Nat.pow_le_pow_right (by decide) (by omega)))
    simp [hz, hz2]
theorem maj_eq (a b c : Nat) : (a &&& b) ^^^ (a &&& c) ^^^ (b &&& c) = (a &&& b) ||| (c &&& (a ||| b)) := by
  apply Nat.eq_of_testBit_eq
  intro i
  simp only [Nat.testBit_xor, Nat.testBit_and, Nat.testBit_or]
  cases a.testBit i <;> cases b.testBit i <;> cases c.testBit i <;> rfl
/-- the words, all of them -/
def wx (w : List Nat) (i : Nat) : Nat := add32 (add32 (add32 (w.getD (i - 16) 0) (w.getD (i - 7) 0)) (sg0 (w.getD (i - 15) 0))) (sg1 (w.getD (i - 2) 0))
def extW : Nat → List Nat → List Nat
  | 0, w => w
  | n + 1, w => extW n w ++ [wx (extW n w) (16 + n)]
def w16 (b : List Nat) : List Nat := (List.range 16).map (fun i => wordN b (4 * i))
theorem w16_length (b : List Nat) : (w16 b).length = 16 := by simp [w16]
theorem extW_length {w : List Nat} (h : w.length = 16) : ∀ n, (extW n w).length = 16 + n
  | 0 => h
  | n + 1 => by
    rw [extW, List.length_append, extW_length h n]
    rfl
theorem extW_get {w : List Nat} (h : w.length = 16) {n : Nat} : ∀ {m j : Nat}, n ≤ m → j < 16 + n → (extW m w).getD j 0 = (extW n w).getD j 0 := by
  intro m
  induction m with
  | zero => intro j hm hj; rw [show n = 0 from by omega]
  | succ m ih =>
    intro j hm hj
    by_cases e : n = m + 1
    · rw [e]
    · rw [← ih (by omega) hj]
      rw [extW, List.getD_eq_getElem?_getD, List.getElem?_append_left (by rw [extW_length h]; omega), List.getD_eq_getElem?_getD]
theorem extW_succ (n : Nat) (w : List Nat) : extW (n + 1) w = extW n w ++ [wx (extW n w) (16 + n)] := by rw [extW]
theorem wx_ext {w : List Nat} (h : w.length = 16) {n m : Nat} (hm : n ≤ m) : wx (extW m w) (16 + n) = wx (extW n w) (16 + n) := by
  have e0 := extW_get h (n := n) (m := m) (j := 16 + n - 16) hm (by omega)
  have e1 := extW_get h (n := n) (m := m) (j := 16 + n - 7) hm (by omega)
  have e2 := extW_get h (n := n) (m := m) (j := 16 + n - 15) hm (by omega)
  have e3 := extW_get h (n := n) (m := m) (j := 16 + n - 2) hm (by omega)
  unfold wx
  rw [e0, e1, e2, e3]
theorem extW_new {w : List Nat} (h : w.length = 16) {n m : Nat} (hm : n < m) : (extW m w).getD (16 + n) 0 = wx (extW m w) (16 + n) := by
  have e1 := extW_get h (n := n + 1) (m := m) (j := 16 + n) (by omega) (by omega)
  have e2 := wx_ext h (n := n) (m := m) (by omega)
  rw [e1, e2, extW_succ, List.getD_eq_getElem?_getD, List.getElem?_append_right (by rw [extW_length h]; omega), extW_length h, Nat.sub_self, List.getElem?_cons_zero, Option.getD_some]
def rW (b : List Nat) : List Nat := extW 48 (w16 b)
theorem rW_length (b : List Nat) : (rW b).length = 64 := extW_length (w16_length b) 48
def rrnd (v : List Nat) (k x : Nat) : List Nat :=
  let t := add32 (add32 (add32 (add32 (v.getD 7 0) (bs1 (v.getD 4 0))) ((v.getD 4 0 &&& v.getD 5 0) ^^^ ((4294967295 - v.getD 4 0) &&& v.getD 6 0))) k) x
  let u := add32 (bs0 (v.getD 0 0)) ((v.getD 0 0 &&& v.getD 1 0) ^^^ (v.getD 0 0 &&& v.getD 2 0) ^^^ (v.getD 1 0 &&& v.getD 2 0))
  [add32 t u, v.getD 0 0, v.getD 1 0, v.getD 2 0, add32 (v.getD 3 0) t, v.getD 4 0, v.getD 5 0, v.getD 6 0]
def rrounds (w : List Nat) : Nat → List Nat → List Nat
  | 0, v => v
  | i + 1, v => rrnd (rrounds w i v) (kN.getD i 0) (w.getD i 0)
def rinto (s b : List Nat) : List Nat := List.zipWith add32 (rrounds (rW b) 64 s) s
theorem rrnd_eq {v : List Nat} (k x : Nat) (hv : ∀ y ∈ v, y < 4294967296) : rrnd v k x = rnd v k x := by
  have hg : ∀ i, v.getD i 0 < 4294967296 := fun i => by
    rw [List.getD_eq_getElem?_getD]
    by_cases h : i < v.length
    · rw [List.getElem?_eq_getElem h]; exact hv _ (List.getElem_mem h)
    · rw [List.getElem?_eq_none (by omega)]; decide
  unfold rrnd rnd
  rw [ch_eq (hg 4) (hg 6), maj_eq]
theorem rnd_lt {v : List Nat} (k x : Nat) (hv : ∀ y ∈ v, y < 4294967296) : ∀ y ∈ rnd v k x, y < 4294967296 := by
  have hg : ∀ i, v.getD i 0 < 4294967296 := fun i => by
    rw [List.getD_eq_getElem?_getD]
    by_cases h : i < v.length
    · rw [List.getElem?_eq_getElem h]; exact hv _ (List.getElem_mem h)
    · rw [List.getElem?_eq_none (by omega)]; decide
  intro y hy
  unfold rnd at hy
  simp only [List.mem_cons, List.not_mem_nil, or_false] at hy
  rcases hy with h | h | h | h | h | h | h | h <;> subst h <;> first | exact add32_lt _ _ | exact hg _
theorem rounds_lt : ∀ (i : Nat) (p : List Nat × List Nat), (∀ y ∈ p.2, y < 4294967296) → ∀ y ∈ (rounds i p).2, y < 4294967296
  | 0, _, h => h
  | i + 1, p, h => rnd_lt _ _ (rounds_lt i p h)
theorem add32_assoc4 (x a b c : Nat) : add32 x (add32 (add32 a b) c) = add32 (add32 (add32 x a) b) c := by
  unfold add32
  omega
theorem bufS_length (i : Nat) (w : List Nat) : (bufS i w).length = w.length := by
  unfold bufS
  split
  · rw [List.length_set]
  · rfl
theorem rounds_buf_length : ∀ (i : Nat) (p : List Nat × List Nat), (rounds i p).1.length = p.1.length
  | 0, _ => rfl
  | i + 1, p => by
    show (bufS i (rounds i p).1).length = _
    rw [bufS_length, rounds_buf_length i]
theorem rounds_1 (i : Nat) (p : List Nat × List Nat) : (rounds (i + 1) p).1 = bufS i (rounds i p).1 := by rw [rounds, step]
theorem rounds_2 (i : Nat) (p : List Nat × List Nat) : (rounds (i + 1) p).2 = rnd (rounds i p).2 (kN.getD i 0) ((rounds (i + 1) p).1.getD (i % 16) 0) := by rw [rounds_1, rounds, step]
theorem bufS_at {i : Nat} {u : List Nat} (h16 : 16 ≤ i) (hl : u.length = 16) : (bufS i u).getD (i % 16) 0 = add32 (add32 (add32 (u.getD (i % 16) 0) (u.getD ((i + 9) % 16) 0)) (sg0 (u.getD ((i + 1) % 16) 0))) (sg1 (u.getD ((i + 14) % 16) 0)) := by
  unfold bufS
  rw [if_pos h16, List.getD_eq_getElem?_getD, List.getElem?_set_self (by rw [hl]; omega), Option.getD_some, add32_assoc4]
theorem bufS_ne {i j : Nat} {u : List Nat} (h : j % 16 ≠ i % 16 ∨ i < 16) : (bufS i u).getD (j % 16) 0 = u.getD (j % 16) 0 := by
  unfold bufS
  split
  · rw [List.getD_eq_getElem?_getD, List.getElem?_set_ne (by omega), ← List.getD_eq_getElem?_getD]
  · rfl
/-- of the words ahead sixteen are kept -/
theorem buf_inv {w : List Nat} (h : w.length = 16) (s : List Nat) : ∀ (i : Nat), i ≤ 64 → ∀ j, (j < 16 ∨ j < i) → i ≤ j + 16 → (rounds i (w, s)).1.getD (j % 16) 0 = (extW 48 w).getD j 0 := by
  intro i
  induction i with
  | zero =>
    intro _ j hj _
    have hj : j < 16 := by omega
    have e := extW_get h (n := 0) (m := 48) (j := j) (by omega) (by omega)
    rw [Nat.mod_eq_of_lt hj, e, extW, rounds]
  | succ i ih0 =>
    intro hi j hj hij
    have ih := ih0 (by omega)
    have hl : (rounds i (w, s)).1.length = 16 := (rounds_buf_length i (w, s)).trans h
    rw [rounds_1]
    by_cases e : j = i ∧ 16 ≤ i
    · obtain ⟨e, h16⟩ := e
      subst e
      have hn := extW_new h (n := j - 16) (m := 48) (by omega)
      rw [show 16 + (j - 16) = j from by omega] at hn
      have e0 := ih (j - 16) (by omega) (by omega)
      have e1 := ih (j - 7) (by omega) (by omega)
      have e2 := ih (j - 15) (by omega) (by omega)
      have e3 := ih (j - 2) (by omega) (by omega)
      rw [show (j - 16) % 16 = j % 16 from by omega] at e0
      rw [show (j - 7) % 16 = (j + 9) % 16 from by omega] at e1
      rw [show (j - 15) % 16 = (j + 1) % 16 from by omega] at e2
      rw [show (j - 2) % 16 = (j + 14) % 16 from by omega] at e3
      rw [bufS_at h16 hl, hn, e0, e1, e2, e3, wx]
    · rw [bufS_ne (by omega)]
      exact ih j (by omega) (by omega)
theorem rrounds_eq {w : List Nat} (h : w.length = 16) {s : List Nat} (hs : ∀ y ∈ s, y < 4294967296) : ∀ (i : Nat), i ≤ 64 → rrounds (extW 48 w) i s = (rounds i (w, s)).2 := by
  intro i
  induction i with
  | zero => intro _; rw [rrounds, rounds]
  | succ i ih =>
    intro hi
    have hb := buf_inv h s (i + 1) hi i (by omega) (by omega)
    rw [rounds_2, hb, rrounds, ih (by omega), rrnd_eq _ _ (rounds_lt i (w, s) hs)]
theorem rinto_eq {s : List Nat} (b : List Nat) (hs : ∀ y ∈ s, y < 4294967296) : rinto s b = mixN s b := by
  unfold rinto mixN rW
  rw [rrounds_eq (w16_length b) hs 64 (by omega)]
  unfold w16
  exact rfl
/-- the document's sum -/
def rwith (l : List Nat) : List Nat := outN (blocks ((padN l l.length).length / 64) begN (padN l l.length))
theorem rwith_eq (l : List Nat) : rwith l = shaN l := rfl
end Go.Proofs.Ytblnclooobggnaa.H

namespace Go.Proofs.Ytblnclooobggnaa.H
open Go.RowKit Go.Proofs.Ytblnclooobggnaa.L Go.Proofs.Ytblnclooobggnaa.N Go.Proofs.YtblnclooobggnaaW.PrintWords

theorem or_add (i x y : Nat) (hx : x % 2 ^ i = 0) (hx1 : x < 4294967296) (hy : y < 2 ^ i) (hy1 : y < 4294967296) : bits .or .u32 (x : Int) (y : Int) = ((x + y : Nat) : Int) := by
  have := bits_join .u32 32 (by decide) wraps_u32 i (x : Int) (y : Int) (by omega) (by exact_mod_cast hx) (by omega) (by omega) (by exact_mod_cast hy) (by omega)
  rw [this]
  omega
set_option maxRecDepth 100000 in
set_option maxHeartbeats 1600000 in
theorem word_any (l : List Nat) (A : Option Addr) (c : Nat) (w : World) (hC : (Kd.int .u8).C w A l.length (nat l)) (h4 : 4 ≤ l.length) (hl : ∀ x ∈ l, x < 256) :
    Calls Try.prog 97 #[.slice A l.length c] w fun e w' => e = .returned (.int .u32 (wordN l 0 : Nat)) ∧ ∃ n, w' = w.drewN n := by
  obtain ⟨b, off, rfl, hb, hc⟩ := B_at hC (by omega)
  have c0 : w.cell? ⟨b, off, none⟩ = _ := hc 0 (by omega)
  have c1 := hc 1 (by omega)
  have c2 := hc 2 (by omega)
  have c3 := hc 3 (by omega)
  have h0 := getD_lt (show 0 < l.length by omega) hl
  have h1 := getD_lt (show 1 < l.length by omega) hl
  have h2 := getD_lt (show 2 < l.length by omega) hl
  have h3 := getD_lt (show 3 < l.length by omega) hl
  have HW := Lib.hid (show wordN l 0 = l.getD 0 0 * 16777216 + l.getD 1 0 * 65536 + l.getD 2 0 * 256 + l.getD 3 0 from rfl)
  clear hc hC hl
  generalize l.getD 0 0 = x0 at *
  generalize l.getD 1 0 = x1 at *
  generalize l.getD 2 0 = x2 at *
  generalize l.getD 3 0 = x3 at *
  have HE := Lib.hid (show bits .or .u32 (bits .or .u32 (bits .or .u32 ((x0 : Int) * 16777216) ((x1 : Int) * 65536)) ((x2 : Int) * 256)) (x3 : Int) = ((x0 * 16777216 + x1 * 65536 + x2 * 256 + x3 : Nat) : Int) from by
    have e1 := or_add 24 (x0 * 16777216) (x1 * 65536) (by omega) (by omega) (by omega) (by omega)
    have e2 := or_add 16 (x0 * 16777216 + x1 * 65536) (x2 * 256) (by omega) (by omega) (by omega) (by omega)
    have e3 := or_add 8 (x0 * 16777216 + x1 * 65536 + x2 * 256) x3 (by omega) (by omega) (by omega) (by omega)
    rw [Int.natCast_mul, Int.natCast_mul] at e1
    rw [Int.natCast_mul x2] at e2
    rw [show ((x0 : Int) * 16777216) = (x0 : Int) * ((16777216 : Nat) : Int) from rfl, show ((x1 : Int) * 65536) = (x1 : Int) * ((65536 : Nat) : Int) from rfl, show ((x2 : Int) * 256) = (x2 : Int) * ((256 : Nat) : Int) from rfl, e1, e2, e3])
  have z0 : (0 : Int) < (l.length : Int) := by omega
  have z1 : (1 : Int) < (l.length : Int) := by omega
  have z2 : (2 : Int) < (l.length : Int) := by omega
  have z3 : (3 : Int) < (l.length : Int) := by omega
  have z4 : 0 < l.length := by omega
  clear h4
  go_enter Try.func97, Try.ntmps97
  go_wp2_with fail
  go_quiet (fail)
  go_outline
  go_wp2_with fail
  go_outline
  go_ret
  exact ⟨by rw [HW.out, HE.out]; rfl, _, rfl⟩
end Go.Proofs.Ytblnclooobggnaa.H

namespace Go.Proofs.Ytblnclooobggnaa.H
open Go.RowKit Go.Proofs.Ytblnclooobggnaa.L Go.Proofs.Ytblnclooobggnaa.N Go.Proofs.YtblnclooobggnaaW.PrintWords

abbrev tA8 : TypeId := 149
abbrev tA16 : TypeId := 164
abbrev tA64 : TypeId := 162
structure MX (B b2 b4 b5 b6 b8 : Nat) (s buf v : List Nat) (w0 w : World) : Prop where
  h2 : AB .u32 tA8 b2 s w
  h4 : AB .u32 tA8 b4 (List.replicate 8 0) w
  h5 : AB .u32 tA64 b5 kN w
  h6 : AB .u32 tA16 b6 buf w
  h8 : AB .u32 tA8 b8 v w
  bel : Below B w0 w
theorem w16_at {bl : List Nat} {i : Nat} (h : i < 16) : wordN (bl.drop (4 * i)) 0 = (w16 bl).getD i 0 := by
  unfold w16 wordN
  rw [List.getD_eq_getElem?_getD (l := List.map _ _), List.getElem?_map, List.getElem?_range h]
  simp only [List.getD_eq_getElem?_getD, List.getElem?_drop, Option.map_some, Option.getD_some, Nat.zero_add, Nat.add_zero]
theorem wordN_lt {b : List Nat} (i : Nat) (h : ∀ x ∈ b, x < 256) : wordN b i < 4294967296 := by
  have h0 := getD_lt0 (m := 256) (by decide) i h
  have h1 := getD_lt0 (m := 256) (by decide) (i + 1) h
  have h2 := getD_lt0 (m := 256) (by decide) (i + 2) h
  have h3 := getD_lt0 (m := 256) (by decide) (i + 3) h
  unfold wordN
  omega
theorem w16_lt {b : List Nat} (h : ∀ x ∈ b, x < 256) : ∀ x ∈ w16 b, x < 4294967296 := by
  intro x hx
  unfold w16 at hx
  obtain ⟨i, _, rfl⟩ := List.mem_map.1 hx
  exact wordN_lt _ h
theorem bufS_lt {i : Nat} {u : List Nat} (h : ∀ x ∈ u, x < 4294967296) : ∀ x ∈ bufS i u, x < 4294967296 := by
  unfold bufS
  split
  · exact set_lt h (add32_lt _ _)
  · exact h
theorem rounds_buf_lt {p : List Nat × List Nat} (h : ∀ x ∈ p.1, x < 4294967296) : ∀ i, ∀ x ∈ (rounds i p).1, x < 4294967296 := by
  intro i
  induction i with
  | zero => rw [rounds]; exact h
  | succ i ih => rw [rounds_1]; exact bufS_lt ih
theorem rnd_length (v : List Nat) (k x : Nat) : (rnd v k x).length = 8 := rfl
theorem rounds_v_length {p : List Nat × List Nat} (h : p.2.length = 8) (i : Nat) : (rounds i p).2.length = 8 := by
  cases i with
  | zero => rw [rounds]; exact h
  | succ i => rw [rounds_2]; exact rnd_length _ _ _
theorem idx16 (i d : Nat) (D : Int) (hD : D = (d : Int)) (hi : i < 64) (hd : d ≤ 15) : ∃ m, (i + d) % 16 = m ∧ IntKind.i64.wrap ((i : Int) + D) = (i : Int) + D ∧ ((i : Int) + D).tmod 16 = (m : Int) ∧ ((i : Int) + D) % 16 = (m : Int) ∧ (m : Int) < 16 ∧ (0 : Int) ≤ (m : Int) ∧ m < 16 := by
  subst hD
  refine ⟨_, rfl, IntWalk.i64_in _ (by omega), ?_, ?_, ?_, ?_, ?_⟩
  · rw [Int.tmod_eq_emod_of_nonneg (by omega)]; omega
  all_goals omega
theorem add_rule (a b : Nat) : IntKind.u32.wrap ((a : Int) + (b : Int)) = ((add32 a b : Nat) : Int) := by
  rw [IntKind.wrap_u32]
  unfold add32
  omega
theorem xor_div {a x : Nat} (n : Nat) (N : Int) (hN : N = (n : Int)) (ha : a < 4294967296) (hx : x < 4294967296) : bits .xor .u32 (a : Int) ((x : Int) / N) = ((a ^^^ x / n : Nat) : Int) := by
  subst hN
  rw [← Int.natCast_ediv]
  exact xor_u32 _ _ ha (Nat.lt_of_le_of_lt (Nat.div_le_self _ _) hx)
theorem rules15 (x0 w9 far near : Nat) (hfar : far < 4294967296) (hnear : near < 4294967296) : ∃ a1 a2 a3 a4 a5 a6 a7 : Nat,
    bits .xor .u32 ((rot far 7 : Nat) : Int) ((rot far 18 : Nat) : Int) = (a1 : Int) ∧ bits .xor .u32 (a1 : Int) ((far : Int) / 8) = (a2 : Int) ∧ IntKind.u32.wrap ((w9 : Int) + (a2 : Int)) = (a3 : Int) ∧
    bits .xor .u32 ((rot near 17 : Nat) : Int) ((rot near 19 : Nat) : Int) = (a4 : Int) ∧ bits .xor .u32 (a4 : Int) ((near : Int) / 1024) = (a5 : Int) ∧ IntKind.u32.wrap ((a3 : Int) + (a5 : Int)) = (a6 : Int) ∧
    IntKind.u32.wrap ((x0 : Int) + (a6 : Int)) = (a7 : Int) ∧ a7 = add32 x0 (add32 (add32 w9 (sg0 far)) (sg1 near)) ∧ a7 < 4294967296 := by
  have f7 := rot_lt (n := 7) (by decide) hfar
  have f18 := rot_lt (n := 18) (by decide) hfar
  have g17 := rot_lt (n := 17) (by decide) hnear
  have g19 := rot_lt (n := 19) (by decide) hnear
  exact ⟨_, _, _, _, _, _, _, xor_u32 _ _ f7 f18, xor_div 8 8 rfl (xor_lt32 f7 f18) hfar, add_rule _ _, xor_u32 _ _ g17 g19, xor_div 1024 1024 rfl (xor_lt32 g17 g19) hnear, add_rule _ _, add_rule _ _, rfl, add32_lt _ _⟩
theorem MX.set6 {B b2 b4 b5 b6 b8 : Nat} {s buf v : List Nat} {w0 w : World} (h : MX B b2 b4 b5 b6 b8 s buf v w0 w) (m x n : Nat) (ho : B ≤ b2 ∧ b2 < b4 ∧ b4 < b5 ∧ b5 < b6 ∧ b6 < b8) : MX B b2 b4 b5 b6 b8 s (buf.set m x) v w0 ((w.drewN n).setCell ⟨b6, m, none⟩ (.int .u32 (x : Int))) := by
  have hl := h.h8.lt
  exact ⟨(h.h2.drewN n).other (by omega), (h.h4.drewN n).other (by omega), (h.h5.drewN n).other (by omega), (h.h6.drewN n).set m x, (h.h8.drewN n).other (by omega), below_grown (h.bel.trans (grown_below0 w n)) (show B ≤ w.heap.size by omega) (grown_set _ _ _ _) (by omega)⟩
theorem MX.drewN {B b2 b4 b5 b6 b8 : Nat} {s buf v : List Nat} {w0 w : World} (h : MX B b2 b4 b5 b6 b8 s buf v w0 w) (n : Nat) : MX B b2 b4 b5 b6 b8 s buf v w0 (w.drewN n) := ⟨h.h2.drewN n, h.h4.drewN n, h.h5.drewN n, h.h6.drewN n, h.h8.drewN n, h.bel.trans (grown_below0 _ _)⟩
theorem MX.copied {B b2 b4 b5 b6 b8 : Nat} {s buf v v' : List Nat} {w0 w w1 : World} (h : MX B b2 b4 b5 b6 b8 s buf v w0 w) (h8 : AB .u32 tA8 b8 v' w1) (hg : w.grownBy w1 (some b8)) (ho : B ≤ b2 ∧ b2 < b4 ∧ b4 < b5 ∧ b5 < b6 ∧ b6 < b8) : MX B b2 b4 b5 b6 b8 s buf v' w0 w1 :=
  ⟨h.h2.grown hg (by intro e; injection e with e; omega), h.h4.grown hg (by intro e; injection e with e; omega), h.h5.grown hg (by intro e; injection e with e; omega), h.h6.grown hg (by intro e; injection e with e; omega), h8, below_grown h.bel (by have := h.h8.lt; omega) hg (by omega)⟩
theorem MX.set8 {B b2 b4 b5 b6 b8 : Nat} {s buf v : List Nat} {w0 w : World} (h : MX B b2 b4 b5 b6 b8 s buf v w0 w) (m x : Nat) (ho : B ≤ b2 ∧ b2 < b4 ∧ b4 < b5 ∧ b5 < b6 ∧ b6 < b8) : MX B b2 b4 b5 b6 b8 s buf (v.set m x) w0 (w.setCell ⟨b8, m, none⟩ (.int .u32 (x : Int))) :=
  h.copied (h.h8.set m x) (grown_set _ _ _ _) ho
theorem rules18 (y4 y5 y6 y7 kc x : Nat) (h4 : y4 < 4294967296) (h5 : y5 < 4294967296) (h6 : y6 < 4294967296) : ∃ g1 g2 g3 g4 g5 g6 g7 g8 g9 : Nat,
    bits .xor .u32 ((rot y4 6 : Nat) : Int) ((rot y4 11 : Nat) : Int) = (g1 : Int) ∧ bits .xor .u32 (g1 : Int) ((rot y4 25 : Nat) : Int) = (g2 : Int) ∧ IntKind.u32.wrap ((y7 : Int) + (g2 : Int)) = (g3 : Int) ∧
    bits .xor .u32 (y5 : Int) (y6 : Int) = (g4 : Int) ∧ bits .and .u32 (y4 : Int) (g4 : Int) = (g5 : Int) ∧ bits .xor .u32 (y6 : Int) (g5 : Int) = (g6 : Int) ∧ IntKind.u32.wrap ((g3 : Int) + (g6 : Int)) = (g7 : Int) ∧
    IntKind.u32.wrap ((g7 : Int) + (kc : Int)) = (g8 : Int) ∧ IntKind.u32.wrap ((g8 : Int) + (x : Int)) = (g9 : Int) ∧ g9 = add32 (add32 (add32 (add32 y7 (bs1 y4)) (y6 ^^^ (y4 &&& (y5 ^^^ y6)))) kc) x := by
  have f1 := rot_lt (n := 6) (by decide) h4
  have f2 := rot_lt (n := 11) (by decide) h4
  have f3 := rot_lt (n := 25) (by decide) h4
  have f4 := xor_lt32 h5 h6
  exact ⟨_, _, _, _, _, _, _, _, _, xor_u32 _ _ f1 f2, xor_u32 _ _ (xor_lt32 f1 f2) f3, add_rule _ _, xor_u32 _ _ h5 h6, and_u32 _ _ h4 f4, xor_u32 _ _ h6 (and_lt32 f4), add_rule _ _, add_rule _ _, add_rule _ _, rfl⟩
theorem rules19 (y0 y1 y2 : Nat) (h0 : y0 < 4294967296) (h1 : y1 < 4294967296) (h2 : y2 < 4294967296) : ∃ f1 f2 f3 f4 f5 f6 f7 : Nat,
    bits .xor .u32 ((rot y0 2 : Nat) : Int) ((rot y0 13 : Nat) : Int) = (f1 : Int) ∧ bits .xor .u32 (f1 : Int) ((rot y0 22 : Nat) : Int) = (f2 : Int) ∧ bits .and .u32 (y0 : Int) (y1 : Int) = (f3 : Int) ∧
    bits .or .u32 (y0 : Int) (y1 : Int) = (f4 : Int) ∧ bits .and .u32 (y2 : Int) (f4 : Int) = (f5 : Int) ∧ bits .or .u32 (f3 : Int) (f5 : Int) = (f6 : Int) ∧ IntKind.u32.wrap ((f2 : Int) + (f6 : Int)) = (f7 : Int) ∧
    f7 = add32 (bs0 y0) ((y0 &&& y1) ||| (y2 &&& (y0 ||| y1))) := by
  have f1 := rot_lt (n := 2) (by decide) h0
  have f2 := rot_lt (n := 13) (by decide) h0
  have f3 := rot_lt (n := 22) (by decide) h0
  have f4 := or_lt32 h0 h1
  exact ⟨_, _, _, _, _, _, _, xor_u32 _ _ f1 f2, xor_u32 _ _ (xor_lt32 f1 f2) f3, and_u32 _ _ h0 h1, or_u32 _ _ h0 h1, and_u32 _ _ h2 f4, or_u32 _ _ (and_lt32 h1) (and_lt32 f4), add_rule _ _, rfl⟩
theorem rnd_sets {v : List Nat} (hv : v.length = 8) (t u : Nat) : ((splice v 1 (v.take 7)).set 4 (add32 (v.getD 3 0) t)).set 0 (add32 t u) = [add32 t u, v.getD 0 0, v.getD 1 0, v.getD 2 0, add32 (v.getD 3 0) t, v.getD 4 0, v.getD 5 0, v.getD 6 0] ∧ (splice v 1 (v.take 7)).getD 4 0 = v.getD 3 0 ∧ (splice v 1 (v.take 7)).length = 8 := by
  match v, hv with
  | [v0, v1, v2, v3, v4, v5, v6, v7], _ => simp [splice]
set_option maxRecDepth 100000 in
set_option maxHeartbeats 3200000 in
theorem mix_any (s bl : List Nat) (A : Option Addr) (c : Nat) (w : World) (hs : s.length = 8) (hsl : ∀ x ∈ s, x < 4294967296) (hb : bl.length = 64) (hbl : ∀ x ∈ bl, x < 256) (hC : (Kd.int .u8).C w A bl.length (nat bl)) (hc : bl.length ≤ c) :
    Calls Try.prog 87 #[.agg (arr .u32 s), .slice A bl.length c] w fun e w' => e = .returned (.agg (arr .u32 (mixN s bl))) ∧ Below w.heap.size w w' := by
  have HS := Lib.hid hs
  have HSL := Lib.hid hsl
  have HBL := Lib.hid hbl
  have HC := Lib.hid hC
  have HB := Lib.hid hb
  have HCc := Lib.hid hc
  have HM := Lib.hid (show (mixN s bl) = mixN s bl from rfl)
  clear hs hsl hbl hC hb hc
  go_enter Try.func87, Try.ntmps87
  go_wp2_with fail
  refine calls_at fun W hW => ?_
  have hl2 : W.heap.size = w.heap.size + 2 := by rw [hW]; simp
  have h2 : AB .u32 tA8 w.heap.size s W := hW ▸ (AB.mk w .u32 tA8 s).below (by simp) ((Below.refl _ _).alloc (Nat.le_refl _) _)
  have h4 : AB .u32 tA8 (w.heap.size + 1) (List.replicate 8 0) W := by
    rw [hW, show w.heap.size + 1 = (w.alloc (Obj.cells (arr .u32 s) tA8)).heap.size from by simp]
    exact AB.mk _ .u32 tA8 (List.replicate 8 0)
  have hbel : Below w.heap.size w W := hW ▸ ((Below.refl _ _).alloc (Nat.le_refl _) _).alloc (by simp) _
  clear hW
  refine (constants_any W).mono ?_
  rintro e W1 ⟨rfl, hb1⟩
  have h21 := h2.below (by omega) hb1
  have h41 := h4.below (by omega) hb1
  have hbel1 := hbel.trans (hb1.mono (by omega))
  have hs1 := hb1.size
  clear h2 h4 hbel hb1
  have HX := Lib.hid (show W1.heap.size ≥ w.heap.size + 2 from by omega)
  clear hs1 hl2
  have H21 := Lib.hid h21
  have H41 := Lib.hid h41
  have HBel1 := Lib.hid hbel1
  clear h21 h41 hbel1 W
  rw [show u32s kN = arr .u32 kN from rfl]
  go_wp2_with (refine store_ab .u32 W1.heap.size (List.replicate 64 0) kN rfl rfl rfl rfl rfl (AB.mk W1 .u32 tA64 (List.replicate 64 0)) (by kernel_rfl) rfl ?_; intro W2 h5 hg5; (have H5 := Lib.hid h5); (have HG5 := Lib.hid hg5); clear h5 hg5)
  refine wp_at fun W3 hW3 => ?_
  have hb12 := below_grown (n := W1.heap.size) (((Below.refl W1.heap.size W1)).alloc (Nat.le_refl _) _) (by simp) HG5.out (Nat.le_refl _)
  have hs12 : W1.heap.size + 1 ≤ W2.heap.size := by have := HG5.out.size; simpa using this
  have hb23 : Below W2.heap.size W2 W3 := hW3 ▸ (Below.refl _ _).alloc (Nat.le_refl _) _
  have hs23 : W2.heap.size + 1 = W3.heap.size := by rw [hW3]; simp
  have h6 : AB .u32 tA16 W2.heap.size (List.replicate 16 0) W3 := hW3 ▸ AB.mk W2 .u32 tA16 (List.replicate 16 0)
  have hX := HX.out
  have h2 := (H21.out.below (by omega) hb12).below (by omega) hb23
  have h4 := (H41.out.below (by omega) hb12).below (by omega) hb23
  have h5 := H5.out.below (by omega) hb23
  have hbel := (HBel1.out.trans (hb12.mono (by omega))).trans (hb23.mono (by omega))
  have HO := Lib.hid (show w.heap.size + 2 ≤ W1.heap.size ∧ W1.heap.size < W2.heap.size ∧ W2.heap.size < W3.heap.size from ⟨by omega, by omega, by omega⟩)
  clear hW3 hb12 hs12 hb23 hs23 hX HX H21 H41 H5 HG5 HBel1
  have H2 := Lib.hid h2
  have H4 := Lib.hid h4
  have H5 := Lib.hid h5
  have H6 := Lib.hid h6
  have HBel := Lib.hid hbel
  clear h2 h4 h5 h6 hbel
  generalize W1.heap.size = b5 at *
  generalize W2.heap.size = b6 at *
  clear W1 W2
  go_loopg [19] 17 (fun g v19 w' => ∃ i : Nat, v19 = .int .i64 i ∧ Hid (i ≤ 16 ∧ 16 < g + i) ∧ Hid (AB .u32 tA16 b6 (fl (w16 bl) i) w') ∧ Hid (W3.grownBy w' (some b6)))
  case atStart => exact ⟨0, rfl, Lib.hid ⟨by omega, by omega⟩, Lib.hid (by rw [fl_zero, w16_length]; exact H6.out), Lib.hid (World.grownBy.refl _ _)⟩
  case round =>
    obtain ⟨i, rfl, HJ, HA, HG⟩ := hrel
    cases gk with
    | zero => have := HJ.out; omega
    | succ k =>
      by_cases hlt : i < 16
      · have HJ' := Lib.hid (show i < 16 ∧ 16 < (k + 1) + i from ⟨hlt, HJ.out.2⟩)
        obtain ⟨A1, c1, hcut, hc1, hC1⟩ := cutF A bl.length c (4 * (i : Int)) (4 * i) (by omega) (by have := HB.out; omega) HCc.out
        have HC1 := Lib.hid (hC1 wr bl (Kd.C_below HC.out (below_grown HBel.out HBel.out.size HG.out (by have := HO.out; omega))))
        have hlen : (bl.drop (4 * i)).length = bl.length - 4 * i := by simp
        have h4 : 4 ≤ (bl.drop (4 * i)).length := by have := HB.out; omega
        have hq := word_any (bl.drop (4 * i)) A1 c1 wr (by rw [hlen]; exact HC1.out) h4 (drop_lt _ HBL.out)
        rw [hlen] at hq
        have HQ := Lib.hid hq
        have hcc := HA.out.cell (i := i) (by rw [fl_length _ (by rw [w16_length]; omega), w16_length]; exact hlt)
        have hfz := HA.out.fz i
        have z1 : (0 : Int) ≤ (i : Int) := by omega
        have z2 : (i : Int) < 16 := by omega
        clear hC1 hc1 hlen h4 hq HJ
        go_wp2_with fail
        refine HQ.out.mono ?_
        rintro e w1 ⟨rfl, n, rfl⟩
        go_wp2_with fail
        go_roundg k
        case measure => have := HJ'.out; omega
        case rel => exact ⟨i + 1, by go_num, Lib.hid (by have := HJ'.out; omega), Lib.hid (by
          have h := (HA.out.drewN n).set i (wordN (bl.drop (4 * i)) 0)
          rw [show (fl (w16 bl) i).set i (wordN (bl.drop (4 * i)) 0) = fl (w16 bl) (i + 1) from by rw [w16_at hlt]; exact fl_step (by rw [w16_length]; exact hlt)] at h
          exact h), Lib.hid ((HG.out.trans (grown_drewN wr n _)).trans (grown_set _ _ _ _))⟩
      · have hi : i = 16 := by have := HJ.out; omega
        subst hi
        have h6 := HA.out
        rw [show fl (w16 bl) 16 = w16 bl from by have := fl_all (w16 bl); rwa [w16_length] at this] at h6
        have hO := HO.out
        have h2 := H2.out.grown HG.out (by intro e; injection e with e; omega)
        have h4 := H4.out.grown HG.out (by intro e; injection e with e; omega)
        have h5 := H5.out.grown HG.out (by intro e; injection e with e; omega)
        have hbel := below_grown HBel.out HBel.out.size HG.out (by omega)
        have hsz := HG.out.size
        have HO2 := Lib.hid (show w.heap.size + 2 ≤ b5 ∧ b5 < b6 ∧ b6 < wr.heap.size from ⟨by omega, by omega, by omega⟩)
        clear HA HG H2 H4 H5 H6 HBel HO hO hsz HJ hlt
        have R2 := Lib.hid h2
        have R4 := Lib.hid h4
        have R5 := Lib.hid h5
        have R6 := Lib.hid h6
        have RBel := Lib.hid hbel
        clear h2 h4 h5 h6 hbel
        go_wp2_with (first
          | (refine load_ab .u32 w.heap.size s rfl rfl rfl R2.out Try.underlying149 (by rw [HS.out]; kernel_rfl) ?_)
          | (refine store_ab .u32 wr.heap.size (List.replicate 8 0) s rfl rfl rfl rfl rfl (AB.mk wr .u32 tA8 (List.replicate 8 0)) (by rw [HS.out]; kernel_rfl) (by rw [HS.out]; rfl) ?_; intro W2 h8 hg8; (have R8 := Lib.hid h8); (have RG8 := Lib.hid hg8); clear h8 hg8))
        have hb8 : Below wr.heap.size wr W2 := below_grown ((Below.refl _ _).alloc (Nat.le_refl _) _) (by simp) RG8.out (Nat.le_refl _)
        have hO := HO2.out
        have M0 := Lib.hid (show MX w.heap.size w.heap.size (w.heap.size + 1) b5 b6 wr.heap.size s (rounds 0 (w16 bl, s)).1 (rounds 0 (w16 bl, s)).2 w W2 from ⟨R2.out.below (by omega) hb8, R4.out.below (by omega) hb8, R5.out.below (by omega) hb8, R6.out.below (by omega) hb8, R8.out, RBel.out.trans (hb8.mono (by omega))⟩)
        clear hb8 hO R2 R4 R5 R6 RBel R8 RG8
        have HORD := Lib.hid (show w.heap.size ≤ w.heap.size ∧ w.heap.size < w.heap.size + 1 ∧ w.heap.size + 1 < b5 ∧ b5 < b6 ∧ b6 < wr.heap.size from ⟨Nat.le_refl _, Nat.lt_succ_self _, HO2.out.1, HO2.out.2⟩)
        generalize wr.heap.size = b8 at *
        go_loopg [31] 65 (fun g v31 w' => ∃ i : Nat, v31 = .int .i64 i ∧ Hid (i ≤ 64 ∧ 64 < g + i) ∧ Hid (MX w.heap.size w.heap.size (w.heap.size + 1) b5 b6 b8 s (rounds i (w16 bl, s)).1 (rounds i (w16 bl, s)).2 w w'))
        case atStart => exact ⟨0, rfl, Lib.hid ⟨by omega, by omega⟩, M0⟩
        case round =>
          obtain ⟨i, rfl, HJ, HMX⟩ := hrel
          cases gk with
          | zero => have := HJ.out; omega
          | succ k2 =>
            by_cases hi64 : i < 64
            · have HJ' := Lib.hid (show i < 64 ∧ 64 < (k2 + 1) + i from ⟨hi64, HJ.out.2⟩)
              have hM := HMX.out
              have hul : (rounds i (w16 bl, s)).1.length = 16 := (rounds_buf_length i _).trans (w16_length bl)
              have hult := rounds_buf_lt (p := (w16 bl, s)) (w16_lt HBL.out) i
              have hvl := rounds_v_length (p := (w16 bl, s)) HS.out i
              have hvlt := rounds_lt i (w16 bl, s) HSL.out
              have hn1 := rounds_1 i (w16 bl, s)
              have hn2 := rounds_2 i (w16 bl, s)
              rw [hn1] at hn2
              clear M0 HMX HJ
              generalize (rounds i (w16 bl, s)).1 = u at hM hul hult hn1 hn2
              generalize (rounds i (w16 bl, s)).2 = v at hM hvl hvlt hn2
              have HN1 := Lib.hid hn1
              have HN2 := Lib.hid hn2
              have HU := Lib.hid (show u.length = 16 ∧ (∀ x ∈ u, x < 4294967296) ∧ v.length = 8 ∧ ∀ x ∈ v, x < 4294967296 from ⟨hul, hult, hvl, hvlt⟩)
              have HM := Lib.hid hM
              obtain ⟨m, hm⟩ : ∃ m, i % 16 = m := ⟨_, rfl⟩
              have q1 : (i : Int) % 16 = (m : Int) := by omega
              have q2 : (0 : Int) ≤ (m : Int) := by omega
              have q3 : (m : Int) < 16 := by omega
              have q4 : (0 : Int) ≤ (i : Int) := by omega
              have q5 : (i : Int) < 64 := by omega
              have c0 := hM.h6.cell (i := m) (by omega)
              obtain ⟨x0, hx0⟩ : ∃ x, u.getD m 0 = x := ⟨_, rfl⟩
              rw [hx0] at c0
              have HX0 := Lib.hid (show u.getD m 0 = x0 ∧ i % 16 = m from ⟨hx0, hm⟩)
              clear hul hult hvl hvlt hn1 hn2 hM hx0 hi64 hm
              by_cases h16 : 16 ≤ i
              · have t1 : decide ((16 : Int) ≤ (i : Int)) = true := decide_eq_true (by omega)
                have t2 : (16 : Int) ≤ (i : Int) := by omega
                go_wp2_with fail
                have hU := HU.out
                have hi64 := HJ'.out.1
                obtain ⟨m1, hm1, p1, r1, s1, b1, n1, k1⟩ := idx16 i 1 1 rfl hi64 (by decide)
                obtain ⟨m9, hm9, p9, r9, s9, b9, n9, k9⟩ := idx16 i 9 9 rfl hi64 (by decide)
                obtain ⟨m14, hm14, p14, r14, s14, b14, n14, k14⟩ := idx16 i 14 14 rfl hi64 (by decide)
                have c1 := HM.out.h6.cell (i := m1) (hU.1.symm ▸ k1)
                have c9 := HM.out.h6.cell (i := m9) (hU.1.symm ▸ k9)
                have c14 := HM.out.h6.cell (i := m14) (hU.1.symm ▸ k14)
                have hfar := getD_lt (l := u) (j := m1) (hU.1.symm ▸ k1) hU.2.1
                have hnear := getD_lt (l := u) (j := m14) (hU.1.symm ▸ k14) hU.2.1
                have hw9 := getD_lt (l := u) (j := m9) (hU.1.symm ▸ k9) hU.2.1
                have HMM := Lib.hid (show (i + 1) % 16 = m1 ∧ (i + 9) % 16 = m9 ∧ (i + 14) % 16 = m14 from ⟨hm1, hm9, hm14⟩)
                clear hm1 hm9 hm14 hU hi64 k1 k9 k14
                generalize hgf : u.getD m1 0 = far at c1 hfar
                generalize hgn : u.getD m14 0 = near at c14 hnear
                generalize hg9 : u.getD m9 0 = w9 at c9 hw9
                have HG1 := Lib.hid (show u.getD m1 0 = far ∧ u.getD m14 0 = near ∧ u.getD m9 0 = w9 from ⟨hgf, hgn, hg9⟩)
                clear hgf hgn hg9
                go_wp2_with fail
                go_quiet (fail)
                go_wp2_with fail
                obtain ⟨a1, a2, a3, a4, a5, a6, a7, e1, e2, e3, e4, e5, e6, e7, ha7, la7⟩ := rules15 x0 w9 far near hfar hnear
                have HA7 := Lib.hid ha7
                clear ha7
                go_quiet ((go_at_call 98; (first | with_reducible exact quiet_add_same (turn7 _ _ hfar) | with_reducible exact quiet_add_same (turn18 _ _ hfar) | with_reducible exact quiet_add_same (turn17 _ _ hnear) | with_reducible exact quiet_add_same (turn19 _ _ hnear))))
                have fz := HM.out.h6.fz m
                go_wp2_with fail
                refine wp_at fun w5 hw5 => ?_
                have hord := HORD.out
                obtain ⟨n5, hn5⟩ : ∃ n, w5 = (wr.drewN n).setCell ⟨b6, m, none⟩ (.int .u32 (a7 : Int)) := ⟨_, hw5⟩
                have HM5 := Lib.hid (show MX w.heap.size w.heap.size (w.heap.size + 1) b5 b6 b8 s (bufS i u) v w w5 from by
                  have h := HM.out.set6 m a7 n5 hord
                  rw [hn5, show bufS i u = u.set m a7 from by
                    unfold bufS
                    rw [if_pos h16, HX0.out.2, HX0.out.1, HMM.out.1, HMM.out.2.1, HMM.out.2.2, HG1.out.1, HG1.out.2.1, HG1.out.2.2, HA7.out]]
                  exact h)
                have HX5 := Lib.hid (show (bufS i u).getD m 0 = a7 ∧ a7 < 4294967296 from ⟨by
                  unfold bufS
                  rw [if_pos h16, HX0.out.2, HX0.out.1, HMM.out.1, HMM.out.2.1, HMM.out.2.2, HG1.out.1, HG1.out.2.1, HG1.out.2.2, ← HA7.out, List.getD_eq_getElem?_getD, List.getElem?_set_self (by rw [HU.out.1]; have := q3; omega)]
                  rfl, la7⟩)
                clear hw5 hn5 hord p1 r1 s1 b1 n1 p9 r9 s9 b9 n9 p14 r14 s14 b14 n14 c1 c9 c14 hfar hnear hw9 e1 e2 e3 e4 e5 e6 e7 la7 fz t1 t2 h16 c0
                have hM := HM5.out
                have hU := HU.out
                have d0 := hM.h8.cell (i := 0) (by rw [hU.2.2.1]; decide)
                have d1 := hM.h8.cell (i := 1) (by rw [hU.2.2.1]; decide)
                have d2 := hM.h8.cell (i := 2) (by rw [hU.2.2.1]; decide)
                have d4 := hM.h8.cell (i := 4) (by rw [hU.2.2.1]; decide)
                have d5 := hM.h8.cell (i := 5) (by rw [hU.2.2.1]; decide)
                have d6 := hM.h8.cell (i := 6) (by rw [hU.2.2.1]; decide)
                have d7 := hM.h8.cell (i := 7) (by rw [hU.2.2.1]; decide)
                have dk := hM.h5.cell (i := i) (show i < 64 from HJ'.out.1)
                have l0 := getD_lt0 (l := v) (m := 4294967296) (by decide) 0 hU.2.2.2
                have l1 := getD_lt0 (l := v) (m := 4294967296) (by decide) 1 hU.2.2.2
                have l2 := getD_lt0 (l := v) (m := 4294967296) (by decide) 2 hU.2.2.2
                have l4 := getD_lt0 (l := v) (m := 4294967296) (by decide) 4 hU.2.2.2
                have l5 := getD_lt0 (l := v) (m := 4294967296) (by decide) 5 hU.2.2.2
                have l6 := getD_lt0 (l := v) (m := 4294967296) (by decide) 6 hU.2.2.2
                obtain ⟨y0, hy0⟩ : ∃ y, v.getD 0 0 = y := ⟨_, rfl⟩
                obtain ⟨y1, hy1⟩ : ∃ y, v.getD 1 0 = y := ⟨_, rfl⟩
                obtain ⟨y2, hy2⟩ : ∃ y, v.getD 2 0 = y := ⟨_, rfl⟩
                obtain ⟨y4, hy4⟩ : ∃ y, v.getD 4 0 = y := ⟨_, rfl⟩
                obtain ⟨y5, hy5⟩ : ∃ y, v.getD 5 0 = y := ⟨_, rfl⟩
                obtain ⟨y6, hy6⟩ : ∃ y, v.getD 6 0 = y := ⟨_, rfl⟩
                obtain ⟨y7, hy7⟩ : ∃ y, v.getD 7 0 = y := ⟨_, rfl⟩
                obtain ⟨kc, hkc⟩ : ∃ y, kN.getD i 0 = y := ⟨_, rfl⟩
                rw [hy0] at d0 l0
                rw [hy1] at d1 l1
                rw [hy2] at d2 l2
                rw [hy4] at d4 l4
                rw [hy5] at d5 l5
                rw [hy6] at d6 l6
                rw [hy7] at d7
                rw [hkc] at dk
                obtain ⟨g1, g2, g3, g4, g5, g6, g7, g8, g9, e1, e2, e3, e4, e5, e6, e7, e8, e9, hg9⟩ := rules18 y4 y5 y6 y7 kc a7 l4 l5 l6
                obtain ⟨f1, f2, f3, f4, f5, f6, f7, p1, p2, p3, p4, p5, p6, p7, hf7⟩ := rules19 y0 y1 y2 l0 l1 l2
                have HR := Lib.hid (show rnd v (kN.getD i 0) ((bufS i u).getD (i % 16) 0) = [add32 g9 f7, v.getD 0 0, v.getD 1 0, v.getD 2 0, add32 (v.getD 3 0) g9, v.getD 4 0, v.getD 5 0, v.getD 6 0] from by
                  unfold rnd
                  rw [HX0.out.2, HX5.out.1, hkc, hg9, hf7, hy0, hy1, hy2, hy4, hy5, hy6, hy7])
                clear hy0 hy1 hy2 hy4 hy5 hy6 hy7 hkc hg9 hf7 hM hU
                go_wp2_with fail
                go_quiet (fail)
                go_wp2_with fail
                go_quiet ((go_at_call 98; (first | with_reducible exact quiet_add_same (turn6 _ _ l4) | with_reducible exact quiet_add_same (turn11 _ _ l4) | with_reducible exact quiet_add_same (turn25 _ _ l4))))
                go_wp2_with fail
                go_quiet ((go_at_call 98; (first | with_reducible exact quiet_add_same (turn2 _ _ l0) | with_reducible exact quiet_add_same (turn13 _ _ l0) | with_reducible exact quiet_add_same (turn22 _ _ l0))))
                go_wp2_with fail
                clear e1 e2 e3 e4 e5 e6 e7 e8 e9 p1 p2 p3 p4 p5 p6 p7 d0 d1 d2 d4 d5 d6 d7 dk l0 l1 l2 l4 l5 l6
                refine wp_at fun w6 hw6 => ?_
                have HM6 := Lib.hid (show MX w.heap.size w.heap.size (w.heap.size + 1) b5 b6 b8 s (bufS i u) v w w6 from by
                  obtain ⟨n6, hn6⟩ : ∃ n, w6 = w5.drewN n := ⟨_, hw6.trans (by rw [World.drewN_drewN, World.drewN_drewN])⟩
                  rw [hn6]
                  exact HM5.out.drewN n6)
                clear hw6 HM5
                refine Q.wp_region_segsF none [] [0, 1] 2 (by kernel_rfl) (by kernel_rfl) (by kernel_rfl) (by kernel_rfl) ?_
                dsimp only [Q.wpSegsF, Q.picks, Q.pick]
                repeat (go_big_quiet_step (fail))
                refine wpQuiet_nil ?_
                refine copy_ab rfl (.tmp 132) (.tmp 133) 112 112 rfl 45 Try.underlying112 (by kernel_rfl) .u32 tA8 _ _ b8 1 _ _ _ _ rfl rfl v HM6.out.h8 (v.take 7) (by rw [List.length_take, HU.out.2.2.1]; rfl) (fun _ => ⟨rfl, _, rfl, fun j hj => ?_⟩) (by rw [List.length_take, HU.out.2.2.1]; decide) ?_
                · have hj7 : j < 7 := by rw [List.length_take, HU.out.2.2.1] at hj; omega
                  have h := HM6.out.h8.cell (i := j) (by rw [HU.out.2.2.1]; omega)
                  rw [show (v.take 7).getD j 0 = v.getD j 0 from by rw [List.getD_eq_getElem?_getD, List.getElem?_take_of_lt hj7, ← List.getD_eq_getElem?_getD], show (⟨b8, 0, none⟩ : Addr).add j = ⟨b8, j, none⟩ from by rw [add_at, Nat.zero_add]]
                  exact h
                intro w7 h87 hg7
                obtain ⟨hs1, hs2, hs3⟩ := rnd_sets HU.out.2.2.1 g9 f7
                have hord := HORD.out
                have hM7 := HM6.out.copied h87 ((grown_drew w6 _).trans hg7) hord
                have HM7 := Lib.hid hM7
                have HS1 := Lib.hid hs1
                have k4 := hM7.h8.cell (i := 4) (by rw [hs3]; decide)
                have k0 := hM7.h8.cell (i := 0) (by rw [hs3]; decide)
                rw [hs2] at k4
                generalize (splice v 1 (v.take 7)).getD 0 0 = y00 at k0
                obtain ⟨y3, hy3⟩ : ∃ y, v.getD 3 0 = y := ⟨_, rfl⟩
                rw [hy3] at k4
                have z4 := hM7.h8.fz 4
                have z0 := hM7.h8.fz 0
                have E1 := add_rule y3 g9
                have E2 := add_rule g9 f7
                have HY3 := Lib.hid hy3
                clear h87 hg7 hs1 hs2 hs3 hM7 hy3 HM6 hord
                refine NoPanic.normal ?_
                go_wp2_with fail
                go_roundg k2
                case measure => have := HJ'.out; omega
                case rel => exact ⟨i + 1, by go_num, Lib.hid (by have := HJ'.out; omega), Lib.hid (by
                  have h := (HM7.out.set8 4 (add32 y3 g9) HORD.out).set8 0 (add32 g9 f7) HORD.out
                  rw [show ((splice v 1 (v.take 7)).set 4 (add32 y3 g9)).set 0 (add32 g9 f7) = rnd v (kN.getD i 0) ((bufS i u).getD (i % 16) 0) from by rw [← HY3.out, HS1.out, HR.out]] at h
                  rw [HN1.out, HN2.out]
                  exact h)⟩
              · have t1 : decide ((16 : Int) ≤ (i : Int)) = false := decide_eq_false (by omega)
                have t2 : (i : Int) < 16 := by omega
                have hx0 := getD_lt0 (l := u) (m := 4294967296) (by decide) m HU.out.2.1
                rw [HX0.out.1] at hx0
                have HXL := Lib.hid hx0
                clear hx0
                go_wp2_with fail
                refine wp_at fun w5 hw5 => ?_
                have HM5 := Lib.hid (show MX w.heap.size w.heap.size (w.heap.size + 1) b5 b6 b8 s (bufS i u) v w w5 from by
                  rw [hw5, show bufS i u = u from by unfold bufS; rw [if_neg h16]]
                  exact HM.out)
                have HX5 := Lib.hid (show (bufS i u).getD m 0 = x0 ∧ x0 < 4294967296 from ⟨by
                  unfold bufS
                  rw [if_neg h16, HX0.out.1], HXL.out⟩)
                clear hw5 t1 t2 h16 c0
                have hM := HM5.out
                have hU := HU.out
                have d0 := hM.h8.cell (i := 0) (by rw [hU.2.2.1]; decide)
                have d1 := hM.h8.cell (i := 1) (by rw [hU.2.2.1]; decide)
                have d2 := hM.h8.cell (i := 2) (by rw [hU.2.2.1]; decide)
                have d4 := hM.h8.cell (i := 4) (by rw [hU.2.2.1]; decide)
                have d5 := hM.h8.cell (i := 5) (by rw [hU.2.2.1]; decide)
                have d6 := hM.h8.cell (i := 6) (by rw [hU.2.2.1]; decide)
                have d7 := hM.h8.cell (i := 7) (by rw [hU.2.2.1]; decide)
                have dk := hM.h5.cell (i := i) (show i < 64 from HJ'.out.1)
                have l0 := getD_lt0 (l := v) (m := 4294967296) (by decide) 0 hU.2.2.2
                have l1 := getD_lt0 (l := v) (m := 4294967296) (by decide) 1 hU.2.2.2
                have l2 := getD_lt0 (l := v) (m := 4294967296) (by decide) 2 hU.2.2.2
                have l4 := getD_lt0 (l := v) (m := 4294967296) (by decide) 4 hU.2.2.2
                have l5 := getD_lt0 (l := v) (m := 4294967296) (by decide) 5 hU.2.2.2
                have l6 := getD_lt0 (l := v) (m := 4294967296) (by decide) 6 hU.2.2.2
                obtain ⟨y0, hy0⟩ : ∃ y, v.getD 0 0 = y := ⟨_, rfl⟩
                obtain ⟨y1, hy1⟩ : ∃ y, v.getD 1 0 = y := ⟨_, rfl⟩
                obtain ⟨y2, hy2⟩ : ∃ y, v.getD 2 0 = y := ⟨_, rfl⟩
                obtain ⟨y4, hy4⟩ : ∃ y, v.getD 4 0 = y := ⟨_, rfl⟩
                obtain ⟨y5, hy5⟩ : ∃ y, v.getD 5 0 = y := ⟨_, rfl⟩
                obtain ⟨y6, hy6⟩ : ∃ y, v.getD 6 0 = y := ⟨_, rfl⟩
                obtain ⟨y7, hy7⟩ : ∃ y, v.getD 7 0 = y := ⟨_, rfl⟩
                obtain ⟨kc, hkc⟩ : ∃ y, kN.getD i 0 = y := ⟨_, rfl⟩
                rw [hy0] at d0 l0
                rw [hy1] at d1 l1
                rw [hy2] at d2 l2
                rw [hy4] at d4 l4
                rw [hy5] at d5 l5
                rw [hy6] at d6 l6
                rw [hy7] at d7
                rw [hkc] at dk
                obtain ⟨g1, g2, g3, g4, g5, g6, g7, g8, g9, e1, e2, e3, e4, e5, e6, e7, e8, e9, hg9⟩ := rules18 y4 y5 y6 y7 kc x0 l4 l5 l6
                obtain ⟨f1, f2, f3, f4, f5, f6, f7, p1, p2, p3, p4, p5, p6, p7, hf7⟩ := rules19 y0 y1 y2 l0 l1 l2
                have HR := Lib.hid (show rnd v (kN.getD i 0) ((bufS i u).getD (i % 16) 0) = [add32 g9 f7, v.getD 0 0, v.getD 1 0, v.getD 2 0, add32 (v.getD 3 0) g9, v.getD 4 0, v.getD 5 0, v.getD 6 0] from by
                  unfold rnd
                  rw [HX0.out.2, HX5.out.1, hkc, hg9, hf7, hy0, hy1, hy2, hy4, hy5, hy6, hy7])
                clear hy0 hy1 hy2 hy4 hy5 hy6 hy7 hkc hg9 hf7 hM hU
                go_wp2_with fail
                go_quiet (fail)
                go_wp2_with fail
                go_quiet ((go_at_call 98; (first | with_reducible exact quiet_add_same (turn6 _ _ l4) | with_reducible exact quiet_add_same (turn11 _ _ l4) | with_reducible exact quiet_add_same (turn25 _ _ l4))))
                go_wp2_with fail
                go_quiet ((go_at_call 98; (first | with_reducible exact quiet_add_same (turn2 _ _ l0) | with_reducible exact quiet_add_same (turn13 _ _ l0) | with_reducible exact quiet_add_same (turn22 _ _ l0))))
                go_wp2_with fail
                clear e1 e2 e3 e4 e5 e6 e7 e8 e9 p1 p2 p3 p4 p5 p6 p7 d0 d1 d2 d4 d5 d6 d7 dk l0 l1 l2 l4 l5 l6
                refine wp_at fun w6 hw6 => ?_
                have HM6 := Lib.hid (show MX w.heap.size w.heap.size (w.heap.size + 1) b5 b6 b8 s (bufS i u) v w w6 from by
                  obtain ⟨n6, hn6⟩ : ∃ n, w6 = w5.drewN n := ⟨_, hw6.trans (by rw [World.drewN_drewN, World.drewN_drewN])⟩
                  rw [hn6]
                  exact HM5.out.drewN n6)
                clear hw6 HM5
                refine Q.wp_region_segsF none [] [0, 1] 2 (by kernel_rfl) (by kernel_rfl) (by kernel_rfl) (by kernel_rfl) ?_
                dsimp only [Q.wpSegsF, Q.picks, Q.pick]
                repeat (go_big_quiet_step (fail))
                refine wpQuiet_nil ?_
                refine copy_ab rfl (.tmp 132) (.tmp 133) 112 112 rfl 45 Try.underlying112 (by kernel_rfl) .u32 tA8 _ _ b8 1 _ _ _ _ rfl rfl v HM6.out.h8 (v.take 7) (by rw [List.length_take, HU.out.2.2.1]; rfl) (fun _ => ⟨rfl, _, rfl, fun j hj => ?_⟩) (by rw [List.length_take, HU.out.2.2.1]; decide) ?_
                · have hj7 : j < 7 := by rw [List.length_take, HU.out.2.2.1] at hj; omega
                  have h := HM6.out.h8.cell (i := j) (by rw [HU.out.2.2.1]; omega)
                  rw [show (v.take 7).getD j 0 = v.getD j 0 from by rw [List.getD_eq_getElem?_getD, List.getElem?_take_of_lt hj7, ← List.getD_eq_getElem?_getD], show (⟨b8, 0, none⟩ : Addr).add j = ⟨b8, j, none⟩ from by rw [add_at, Nat.zero_add]]
                  exact h
                intro w7 h87 hg7
                obtain ⟨hs1, hs2, hs3⟩ := rnd_sets HU.out.2.2.1 g9 f7
                have hord := HORD.out
                have hM7 := HM6.out.copied h87 ((grown_drew w6 _).trans hg7) hord
                have HM7 := Lib.hid hM7
                have HS1 := Lib.hid hs1
                have k4 := hM7.h8.cell (i := 4) (by rw [hs3]; decide)
                have k0 := hM7.h8.cell (i := 0) (by rw [hs3]; decide)
                rw [hs2] at k4
                generalize (splice v 1 (v.take 7)).getD 0 0 = y00 at k0
                obtain ⟨y3, hy3⟩ : ∃ y, v.getD 3 0 = y := ⟨_, rfl⟩
                rw [hy3] at k4
                have z4 := hM7.h8.fz 4
                have z0 := hM7.h8.fz 0
                have E1 := add_rule y3 g9
                have E2 := add_rule g9 f7
                have HY3 := Lib.hid hy3
                clear h87 hg7 hs1 hs2 hs3 hM7 hy3 HM6 hord
                refine NoPanic.normal ?_
                go_wp2_with fail
                go_roundg k2
                case measure => have := HJ'.out; omega
                case rel => exact ⟨i + 1, by go_num, Lib.hid (by have := HJ'.out; omega), Lib.hid (by
                  have h := (HM7.out.set8 4 (add32 y3 g9) HORD.out).set8 0 (add32 g9 f7) HORD.out
                  rw [show ((splice v 1 (v.take 7)).set 4 (add32 y3 g9)).set 0 (add32 g9 f7) = rnd v (kN.getD i 0) ((bufS i u).getD (i % 16) 0) from by rw [← HY3.out, HS1.out, HR.out]] at h
                  rw [HN1.out, HN2.out]
                  exact h)⟩
            · have hi : i = 64 := by have := HJ.out; omega
              subst hi
              clear HJ M0 hi64
              have hvl := rounds_v_length (p := (w16 bl, s)) HS.out 64
              have HV := Lib.hid (show mixN s bl = List.zipWith add32 (rounds 64 (w16 bl, s)).2 s from by unfold mixN w16; exact rfl)
              have hM := HMX.out
              clear HMX
              generalize (rounds 64 (w16 bl, s)).2 = V at hM hvl HV
              generalize (rounds 64 (w16 bl, s)).1 = U at hM
              have HM := Lib.hid hM
              have HVl := Lib.hid hvl
              have hzl : (List.zipWith add32 V s).length = 8 := by rw [List.length_zipWith, hvl, HS.out]; rfl
              have HZl := Lib.hid hzl
              clear hM hvl hzl
              go_wp2_with fail
              go_loopg [145] 9 (fun g v145 w' => ∃ i : Nat, v145 = .int .i64 i ∧ Hid (i ≤ 8 ∧ 8 < g + i) ∧ Hid (MX w.heap.size w.heap.size (w.heap.size + 1) b5 b6 b8 s U (fld (List.zipWith add32 V s) V i) w w'))
              case atStart => exact ⟨0, rfl, Lib.hid ⟨by omega, by omega⟩, by rw [fld_zero]; exact HM⟩
              case round =>
                obtain ⟨i, rfl, HJ, HMX⟩ := hrel
                cases gk with
                | zero => have := HJ.out; omega
                | succ k3 =>
                  clear HM
                  by_cases hi8 : i < 8
                  · have HJ' := Lib.hid (show i < 8 ∧ 8 < (k3 + 1) + i from ⟨hi8, HJ.out.2⟩)
                    have hord := HORD.out
                    have hl8 := HMX.out.h8.lt
                    have c8 := gw hl8 (HMX.out.h8.cell (i := i) (by rw [fld_length (by rw [HZl.out, HVl.out]) (by rw [HZl.out]; omega), HVl.out]; exact hi8))
                    rw [fld_get (by rw [HZl.out, HVl.out]) (by rw [HZl.out]; exact hi8)] at c8
                    have c2 := gw HMX.out.h2.lt (HMX.out.h2.cell (i := i) (by rw [HS.out]; exact hi8))
                    have hz : (List.zipWith add32 V s).getD i 0 = add32 (V.getD i 0) (s.getD i 0) := by
                      rw [List.getD_eq_getElem?_getD, List.getElem?_zipWith, List.getElem?_eq_getElem (by rw [HVl.out]; exact hi8), List.getElem?_eq_getElem (by rw [HS.out]; exact hi8)]
                      simp [List.getD_eq_getElem?_getD, List.getElem?_eq_getElem (show i < V.length by rw [HVl.out]; exact hi8), List.getElem?_eq_getElem (show i < s.length by rw [HS.out]; exact hi8)]
                    have hst := fld_step (new := List.zipWith add32 V s) (old := V) (by rw [HZl.out, HVl.out]) (i := i) (by rw [HZl.out]; exact hi8)
                    rw [hz] at hst
                    obtain ⟨va, hva⟩ : ∃ a, V.getD i 0 = a := ⟨_, rfl⟩
                    obtain ⟨sa, hsa⟩ : ∃ a, s.getD i 0 = a := ⟨_, rfl⟩
                    rw [hva, hsa] at hst
                    rw [hva] at c8
                    rw [hsa] at c2
                    have HST := Lib.hid hst
                    have k8 := HMX.out.h8.cell (i := i) (by rw [fld_length (by rw [HZl.out, HVl.out]) (by rw [HZl.out]; omega), HVl.out]; exact hi8)
                    have fz := HMX.out.h8.fz i
                    have E := add_rule va sa
                    have z1 : (0 : Int) ≤ (i : Int) := by omega
                    have z2 : (i : Int) < 8 := by omega
                    clear hst hz hord hl8 HJ hi8 hva hsa
                    generalize (fld (List.zipWith add32 V s) V i).getD i 0 = y at k8
                    go_wp2_with fail
                    refine Q.wp_region_segsF none [] [0, 1, 2, 3, 4, 5, 6, 7] 8 (by kernel_rfl) (by kernel_rfl) (by kernel_rfl) (by kernel_rfl) ?_
                    dsimp only [Q.wpSegsF, Q.picks, Q.pick]
                    repeat (go_big_quiet_step (fail))
                    refine wpQuiet_nil ?_
                    clear c8 c2
                    go_wp2_with fail
                    refine NoPanic.normal ?_
                    go_wp2_with fail
                    go_roundg k3
                    case measure => have := HJ'.out; omega
                    case rel => exact ⟨i + 1, by go_num, Lib.hid (by have := HJ'.out; omega), Lib.hid (by
                      have h := HMX.out.set8 i (add32 va sa) HORD.out
                      rw [HST.out] at h
                      exact h.drewN 1)⟩
                  · have hi : i = 8 := by have := HJ.out; omega
                    subst hi
                    have h := HMX.out
                    rw [show fld (List.zipWith add32 V s) V 8 = mixN s bl from by
                      have := fld_all (new := List.zipWith add32 V s) (old := V) (by rw [HZl.out, HVl.out])
                      rw [HZl.out] at this
                      rw [this, HV.out]] at h
                    have hEl : (mixN s bl).length = 8 := HV.out ▸ HZl.out
                    obtain ⟨R, hR⟩ : ∃ R, mixN s bl = R := ⟨_, rfl⟩
                    rw [hR] at h hEl
                    have HE := Lib.hid h
                    have HEl := Lib.hid hEl
                    have HRR := Lib.hid hR
                    clear h HMX HJ hi8 hEl hR
                    go_wp2_with (first
                      | (refine load_ab .u32 b8 R rfl rfl rfl HE.out.h8 Try.underlying149 (by rw [HEl.out]; kernel_rfl) ?_)
                      | (refine store_ab .u32 (w.heap.size + 1) (List.replicate 8 0) R rfl rfl rfl rfl rfl HE.out.h4 (by rw [HEl.out]; kernel_rfl) (by rw [HEl.out]; rfl) ?_; intro W5 h45 hg5; (have R45 := Lib.hid h45); (have RG5 := Lib.hid hg5); clear h45 hg5))
                    have hl := R45.out.load (P := Try.prog) Try.underlying149 (by rw [HEl.out]; kernel_rfl)
                    have hb5 := below_grown HE.out.bel (by have := HE.out.h8.lt; have := HORD.out; omega) RG5.out (by omega)
                    exact bodyPost_ret (v := .agg (arr .u32 R)) (by simp [results, Try.results87, hl, Act.put, asAddr]) rfl ⟨by rw [HRR.out], hb5⟩
end Go.Proofs.Ytblnclooobggnaa.H

namespace Go.Proofs.Ytblnclooobggnaa.H
open Go.RowKit Go.Proofs.Ytblnclooobggnaa.L Go.Proofs.Ytblnclooobggnaa.N Go.Proofs.YtblnclooobggnaaW.PrintWords

abbrev tSh : TypeId := 152
/-- the cells of a sum -/
def shc (s : List Nat) (v : Value) (n : Nat) (m : Bool) : List Value := s.map (fun x : Nat => Value.int .u32 (x : Int)) ++ [v, .int .i64 (n : Int), .bool m]
structure SG (b : Nat) (s : List Nat) (v : Value) (n : Nat) (m : Bool) (w : World) : Prop where
  blk : w.heap[b]? = some (.cells (shc s v n m).toArray tSh (0, 0))
  len : s.length = 8
theorem SG.lt {b n : Nat} {s : List Nat} {v : Value} {m : Bool} {w : World} (h : SG b s v n m w) : b < w.heap.size := blk_lt h.blk
theorem SG.c8 {b n : Nat} {s : List Nat} {v : Value} {m : Bool} {w : World} (h : SG b s v n m w) : w.cell? ⟨b, 8, none⟩ = some v := by
  have hl := h.len
  rw [blk_cell h.blk, List.getElem?_toArray, shc, List.getElem?_append_right (by simp; omega)]
  simp [hl]
theorem SG.c9 {b n : Nat} {s : List Nat} {v : Value} {m : Bool} {w : World} (h : SG b s v n m w) : w.cell? ⟨b, 9, none⟩ = some (.int .i64 (n : Int)) := by
  have hl := h.len
  rw [blk_cell h.blk, List.getElem?_toArray, shc, List.getElem?_append_right (by simp; omega)]
  simp [hl]
theorem SG.c10 {b n : Nat} {s : List Nat} {v : Value} {m : Bool} {w : World} (h : SG b s v n m w) : w.cell? ⟨b, 10, none⟩ = some (.bool m) := by
  have hl := h.len
  rw [blk_cell h.blk, List.getElem?_toArray, shc, List.getElem?_append_right (by simp; omega)]
  simp [hl]
theorem SG.fz {b n : Nat} {s : List Nat} {v : Value} {m : Bool} {w : World} (h : SG b s v n m w) (i : Nat) : w.frozen? ⟨b, i, none⟩ = false := blk_frozen h.blk i
theorem SG.s8 {b n : Nat} {s : List Nat} {v : Value} {m : Bool} {w : World} (h : SG b s v n m w) (u : Value) : SG b s u n m (w.setCell ⟨b, 8, none⟩ u) := by
  have hl := h.len
  refine ⟨?_, hl⟩
  rw [blk_set h.blk 8 u]
  simp only [shc, List.setIfInBounds_toArray]
  rw [List.set_append_right _ _ (by simp; omega)]
  simp [hl]
theorem SG.s9 {b n : Nat} {s : List Nat} {v : Value} {m : Bool} {w : World} (h : SG b s v n m w) (k : Nat) : SG b s v k m (w.setCell ⟨b, 9, none⟩ (.int .i64 (k : Int))) := by
  have hl := h.len
  refine ⟨?_, hl⟩
  rw [blk_set h.blk 9 _]
  simp only [shc, List.setIfInBounds_toArray]
  rw [List.set_append_right _ _ (by simp; omega)]
  simp [hl]
theorem SG.keep {b n : Nat} {s : List Nat} {v : Value} {m : Bool} {w w1 : World} (h : SG b s v n m w) (hm : w1.heap[b]? = w.heap[b]?) : SG b s v n m w1 := ⟨hm.trans h.blk, h.len⟩
theorem SG.below {b n : Nat} {s : List Nat} {v : Value} {m : Bool} {w w1 : World} (h : SG b s v n m w) (hb : Below w.heap.size w w1) : SG b s v n m w1 := h.keep (hb.block b h.lt)
theorem SG.range {b n : Nat} {s : List Nat} {v : Value} {m : Bool} {w : World} (h : SG b s v n m w) : w.rangeAt b 0 (s.map (fun x : Nat => Value.int .u32 (x : Int))) := by
  refine range_blk h.blk fun j u hj => ?_
  have hlt : j < (s.map (fun x : Nat => Value.int .u32 (x : Int))).length := (List.getElem?_eq_some_iff.1 hj).1
  rw [Nat.zero_add, shc, List.getElem?_append_left hlt]
  exact hj
theorem info_a8 : (Try.prog.info? 149).map (·.size) = some 8 := by kernel_rfl
theorem SG.load {b n : Nat} {s : List Nat} {v : Value} {m : Bool} {w : World} (h : SG b s v n m w) : (Instr.loadAt 149 (.pointer (some ⟨b, 0, none⟩))).run Try.prog w = .ok (.agg (arr .u32 s)) w :=
  run_loadAt_mid w b 0 149 _ _ h.range Try.underlying149 rfl (by rw [List.length_map, h.len]; exact info_a8)
theorem SG.st {b n : Nat} {s s' : List Nat} {v : Value} {m : Bool} {w : World} (h : SG b s v n m w) (hs : s'.length = 8) : SG b s' v n m (w.setCells b 0 (arr .u32 s').toList) := by
  refine ⟨?_, hs⟩
  have hl := h.len
  have := setCells_blk b tSh (arr .u32 s').toList 0 _ w h.blk (by simp [arr, shc, hs, hl])
  rw [this]
  congr 2
  simp [splice, shc, arr, hs, hl]
theorem SG.there {b n : Nat} {s : List Nat} {v : Value} {m : Bool} {w : World} (h : SG b s v n m w) : w.there b 0 8 := there_blk h.blk (by have := h.len; simp [shc]; omega)
/-- what was added to a sum, and the row of what is left -/
structure SHA (b : Nat) (l : List Nat) (A : Option Addr) (c : Nat) (w : World) : Prop where
  g : SG b (stN begN l) (.slice A (lfN l).length c) l.length true w
  cap : (lfN l).length ≤ c
  row : (Kd.int .u8).C w A (lfN l).length (nat (lfN l))
  ty : Ty w 5 A
  lt8 : ∀ x ∈ l, x < 256
def SH (b : Nat) (l : List Nat) (w : World) : Prop := ∃ A c, SHA b l A c w
theorem SHA.move {b : Nat} {l : List Nat} {A : Option Addr} {c : Nat} {w w1 : World} (h : SHA b l A c w) (h1 : w1.heap[b]? = w.heap[b]?) (hm : ∀ ad, A = some ad → w1.heap[ad.block]? = w.heap[ad.block]?) : SHA b l A c w1 :=
  ⟨h.g.keep h1, h.cap, C_move h.row hm, h.ty.move hm, h.lt8⟩
theorem SH.below {b : Nat} {l : List Nat} {w w1 : World} (h : SH b l w) (hb : Below w.heap.size w w1) : SH b l w1 := by
  obtain ⟨A, c, h⟩ := h
  exact ⟨A, c, h.move (hb.block b h.g.lt) (below_keep hb h.ty)⟩
theorem SH.lt {b : Nat} {l : List Nat} {w : World} (h : SH b l w) : b < w.heap.size := by
  obtain ⟨A, c, h⟩ := h
  exact h.g.lt
theorem SH.lt8 {b : Nat} {l : List Nat} {w : World} (h : SH b l w) : ∀ x ∈ l, x < 256 := by
  obtain ⟨A, c, h⟩ := h
  exact h.lt8
/-- another object's call leaves a sum alone -/
theorem SH.other {b k : Nat} {l : List Nat} {w w1 : World} {t : TypeId} {cs : Array Value} {fr : Nat × Nat} (h : SH b l w) (hk : w.heap[k]? = some (.cells cs t fr)) (h1 : t ≠ tSh) (h2 : 5 ≠ t) (hg : w.grownBy w1 (some k)) : SH b l w1 := by
  obtain ⟨A, c, h⟩ := h
  refine ⟨A, c, h.move (hg.block b h.g.lt (fun e => ?_)) (grown_keep hg h.ty hk h2)⟩
  injection e with e
  subst e
  rw [h.g.blk] at hk
  injection hk with hk
  injection hk with _ hk _
  exact h1 hk.symm
set_option maxRecDepth 100000 in
set_option maxHeartbeats 800000 in
theorem new_any (w : World) : Calls Try.prog 76 #[] w fun e w' => ∃ b, e = .returned (.pointer (some ⟨b, 0, none⟩)) ∧ w.heap.size ≤ b ∧ SH b [] w' ∧ Below w.heap.size w w' := by
  go_enter Try.func76, Try.ntmps76
  go_wp2_with fail
  refine (begin_any w).mono ?_
  rintro e w1 ⟨rfl, hb⟩
  have HB := Lib.hid hb
  clear hb
  rw [show u32s begN = arr .u32 begN from rfl]
  go_wp2_with (refine H.wpList_build (.agg (shc begN (.slice none 0 0) 0 true).toArray) rfl rfl (by kernel_rfl) ?_)
  refine bodyPost_ret (v := .pointer (some ⟨w1.heap.size, 0, none⟩)) (by simp [results, Try.results76, go_sem]) rfl ?_
  have hb := HB.out
  refine ⟨w1.heap.size, rfl, hb.size, ⟨none, 0, ⟨⟨?_, rfl⟩, Nat.le_refl _, ?_, Ty.none_ _ _, by simp⟩⟩, hb.trans ((Below.refl _ _).alloc hb.size _)⟩
  · exact heap_alloc_new w1 _
  · exact C_none _
set_option maxRecDepth 100000 in
theorem add_nil (v : Value) (w : World) : Calls Try.prog 77 #[.pointer none, v] w fun e w' => e = .returned (.int .i64 6) ∧ w' = w := by
  go_enter Try.func77, Try.ntmps77
  go_wp2_with fail
  go_ret
  exact ⟨rfl, rfl⟩
set_option maxRecDepth 100000 in
theorem add_zero (b : Nat) (s : List Nat) (v u : Value) (n : Nat) (w : World) (h : SG b s v n false w) : Calls Try.prog 77 #[.pointer (some ⟨b, 0, none⟩), u] w fun e w' => e = .returned (.int .i64 6) ∧ w' = w := by
  have c10 := h.c10
  clear h
  go_enter Try.func77, Try.ntmps77
  go_wp2_with fail
  go_ret
  exact ⟨rfl, rfl⟩
theorem shc_no {s : List Nat} {A : Option Addr} {k c n : Nat} {m : Bool} (i : Nat) (y : Int) : (shc s (.slice A k c) n m).toArray[i]? ≠ some (.int .u8 y) := by
  intro h
  rw [List.getElem?_toArray] at h
  have := List.mem_of_getElem? h
  unfold shc at this
  rcases List.mem_append.1 this with h1 | h1
  · obtain ⟨x, _, e⟩ := List.mem_map.1 h1
    injection e with e
    cases e
  · simp at h1
theorem SG.grown {b n : Nat} {s : List Nat} {v : Value} {m : Bool} {w w1 : World} {row : Option Nat} (h : SG b s v n m w) (hg : w.grownBy w1 row) (hne : some b ≠ row) : SG b s v n m w1 := h.keep (hg.block b h.lt hne)
/-- between two blocks that go in -/
structure AD (b n : Nat) (s r : List Nat) (A0 : Option Addr) (k0 c0 : Nat) (A : Option Addr) (c : Nat) (w0 w : World) : Prop where
  g : SG b s (.slice A0 k0 c0) n true w
  sl : ∀ x ∈ s, x < 4294967296
  cap : r.length ≤ c
  row : (Kd.int .u8).C w A r.length (nat r)
  ty : Ty w 5 A
  lt8 : ∀ x ∈ r, x < 256
  gr : w0.grownBy w (some b)
theorem nat_add (a b : Nat) : ((a : Int) + (b : Int)) = ((a + b : Nat) : Int) := (Int.natCast_add a b).symm
set_option maxRecDepth 100000 in
set_option maxHeartbeats 1600000 in
theorem add_any (b : Nat) (l m : List Nat) (B : Option Addr) (cb : Nat) (w : World) (h : SH b l w) (hC : (Kd.int .u8).C w B m.length (nat m)) (hm : ∀ x ∈ m, x < 256) (hlen : l.length + m.length ≤ 1152921504606846976) (hmm : m.length ≤ 70368744177664) :
    Calls Try.prog 77 #[.pointer (some ⟨b, 0, none⟩), .slice B m.length cb] w fun e w' => e = .returned (.int .i64 0) ∧ SH b (l ++ m) w' ∧ w.grownBy w' (some b) := by
  obtain ⟨A, c, h⟩ := h
  have c10 := h.g.c10
  have c9 := h.g.c9
  have f9 := h.g.fz 9
  have HX := Lib.hid h
  have HC := Lib.hid hC
  have HM := Lib.hid hm
  have HLen := Lib.hid (show l.length + m.length ≤ 1152921504606846976 ∧ m.length ≤ 70368744177664 from ⟨hlen, hmm⟩)
  have z1 : (l.length : Int) + (m.length : Int) ≤ 1152921504606846976 := by omega
  have z2 : (0 : Int) ≤ (l.length : Int) := by omega
  have z3 : (0 : Int) ≤ (m.length : Int) := by omega
  clear h hC hm hlen hmm
  go_enter Try.func77, Try.ntmps77
  go_wp2_with fail
  refine wp_at fun W hW => ?_
  rw [nat_add] at hW
  have hX := HX.out
  have hG1 := grown_set w b 9 (.int .i64 ((l.length + m.length : Nat) : Int))
  rw [← hW] at hG1
  have hg1 : SG b (stN begN l) (.slice A (lfN l).length c) (l.length + m.length) true W := hW ▸ hX.g.s9 (l.length + m.length)
  have hrow := C_ty hX.row hX.ty hX.g.blk (by decide) hG1
  have hty := hX.ty.move (grown_keep hG1 hX.ty hX.g.blk (by decide))
  have hC1 := C_apart HC.out hX.g.blk shc_no hG1
  obtain ⟨i0, hi0, _⟩ := info_of info_u8
  have hcut := cut_cap (P := Try.prog) 41 5 Try.underlying41 hi0 A (lfN l).length c hX.cap
  have q8 := gw hg1.lt hg1.c8
  have HCap := Lib.hid hX.cap
  have HN := Lib.hid (show A = none → (lfN l).length = 0 from fun h0 => by
    rcases Nat.eq_zero_or_pos (lfN l).length with hz | hz
    · exact hz
    · obtain ⟨ad, hA, _⟩ := hX.row.2.2 hz
      rw [h0] at hA
      cases hA)
  have HG1 := Lib.hid hG1
  have Hg1 := Lib.hid hg1
  have HR1 := Lib.hid hrow
  have HT1 := Lib.hid hty
  have HC1 := Lib.hid hC1
  have HL8 := Lib.hid hX.lt8
  clear hW hX hG1 hg1 hrow hty hC1 HX HC c10 c9 f9 z1 z2 z3
  refine Q.wp_region_segs none [([0, 1, 2, 3, 4, 5, 6, 7, 8, 9, 10, 11, 12, 13, 14, 15], some 16), ([17], none)] (by kernel_rfl) (by kernel_rfl) (by kernel_rfl) (by kernel_rfl) ?_
  dsimp only [Q.wpSegs, Q.picks, Q.pick]
  repeat (go_big_quiet_step (fail))
  refine wpQuiet_nil ?_
  go_wp2_with (at_builtin; refine appr .u8 (.tmp 38) (.tmp 39) 41 5 1 rfl rfl Try.underlying41 info_u8 (nat (lfN l)) (nat m) A B (lfN l).length m.length cb rfl rfl (Kd.C_drew HR1.out) HT1.out (Kd.C_drew HC1.out) HN.out (by have := HLen.out; have := lfN_length l; omega) (by decide) ?_; intro A1 c1 w1 hc1 hC1 hT1 _ hg1; (have HRow := Lib.hid hC1); (have HTy := Lib.hid hT1); (have HGr := Lib.hid hg1); (have HK1 := Lib.hid hc1); clear hC1 hT1 hg1 hc1)
  refine Q.ev_app (Q.Gr.of_grown HGr.out (Nat.le_refl _)) (Nat.le_refl _) (Q.NewRow.self _ _) ?_
  clear q8 hcut
  repeat (go_big_quiet_step (fail))
  refine wpQuiet_nil ?_
  refine NoPanic.normal ?_
  go_wp2_with fail
  have hrl : (lfN l ++ m).length = (lfN l).length + m.length := List.length_append
  have M0 := Lib.hid (show AD b (l.length + m.length) (stN begN l) (lfN l ++ m) A (lfN l).length c A1 c1 w w1 from
    ⟨(Hg1.out.keep (w1 := W.drew) rfl).grown HGr.out (by simp), stN_lt l begN_lt, by rw [hrl]; exact HK1.out, by rw [hrl, nat_app]; exact HRow.out, HTy.out, app_lt (drop_lt _ HL8.out) HM.out, HG1.out.trans ((grown_drew W _).trans ⟨HGr.out.os, HGr.out.tape, HGr.out.output, HGr.out.size, fun k hk _ => HGr.out.block k hk (by simp)⟩)⟩)
  have HS0 := Lib.hid (show stN (stN begN l) (lfN l ++ m) = stN begN (l ++ m) ∧ lfN (lfN l ++ m) = lfN (l ++ m) from ⟨(stN_app begN l m).symm, (lfN_app l m).symm⟩)
  have HRL := Lib.hid hrl
  clear HRow HTy HGr HK1 HG1 Hg1 HR1 HT1 HC1 HN hrl
  go_loopg [5] (l.length + m.length + 1) (fun g v5 w' => ∃ (s r : List Nat) (A1 : Option Addr) (c1 : Nat), v5 = .slice A1 r.length c1 ∧ Hid (r.length < 64 * g) ∧ Hid (AD b (l.length + m.length) s r A (lfN l).length c A1 c1 w w') ∧ Hid (stN s r = stN begN (l ++ m) ∧ lfN r = lfN (l ++ m)))
  case atStart => exact ⟨_, _, A1, c1, by rw [HRL.out], Lib.hid (by have := HRL.out; have := lfN_length l; omega), M0, HS0⟩
  case round =>
    obtain ⟨s, r, A1, c1, rfl, HJ, HA, HE⟩ := hrel
    clear M0 HS0
    cases gk with
    | zero => have := HJ.out; omega
    | succ k =>
      have hA := HA.out
      have hmx := (B_open hA.row).1
      by_cases h64 : 64 ≤ r.length
      · have t1 : decide ((64 : Int) ≤ (r.length : Int)) = true := decide_eq_true (by omega)
        have t2 : (64 : Int) ≤ (r.length : Int) := by omega
        obtain ⟨hct, hCt⟩ := cutT A1 r.length c1 64 64 rfl h64 hA.cap
        obtain ⟨A2, c2, hcf, hc2, hsub, hCf⟩ := cutFS A1 r.length c1 64 64 rfl h64 hA.cap
        have hld : ∀ n : Q.GW wr.drew wr.heap.size none, (Instr.loadAt 149 (.pointer (some ⟨b, 0, none⟩))).run Try.prog n.w = .ok (.agg (arr .u32 s)) n.w := fun n => ((hA.g.keep (w1 := wr.drew) rfl).below (Q.GW.below (W := wr.drew) n)).load
        have H64 := Lib.hid h64
        have HCt := Lib.hid hCt
        have HCf := Lib.hid hCf
        have Hc2 := Lib.hid hc2
        have HTy2 := Lib.hid (hA.ty.sub hsub)
        clear hA hCt hCf hc2 h64 hsub
        go_wp2_with fail
        refine Q.wp_region_segsF none [([0, 1, 2, 3, 4, 5, 6], some 7)] [8, 9] 10 (by kernel_rfl) (by kernel_rfl) (by kernel_rfl) (by kernel_rfl) ?_
        dsimp only [Q.wpSegsF, Q.picks, Q.pick]
        repeat (go_big_quiet_step (fail))
        refine quiet_load 149 (.tmp 47) (.pointer (some ⟨b, 0, none⟩)) (.agg (arr .u32 s)) rfl rfl rfl (by rintro w' ⟨n, rfl⟩; exact hld n) ?_
        go_simp
        repeat (go_big_quiet_step (fail))
        refine wpQuiet_nil ?_
        have hA := HA.out
        have ht64 : (r.take 64).length = 64 := by rw [List.length_take]; have := H64.out; omega
        have hq := mix_any s (r.take 64) A1 c1 wr.drew hA.g.len hA.sl ht64 (take_lt _ hA.lt8) (by rw [ht64]; exact Kd.C_drew (HCt.out _ _ hA.row)) (by rw [ht64]; have := hA.cap; have := H64.out; omega)
        rw [ht64] at hq
        have HQ := Lib.hid hq
        clear hq ht64 hA
        go_wp2_with (go_at_call 87; refine HQ.out.mono ?_; rintro e w2 ⟨rfl, hb2⟩; (have HB2 := Lib.hid hb2); clear hb2)
        refine Q.ev_keep HB2.out (Nat.le_refl _) ?_
        clear hld HQ
        repeat (go_big_quiet_step (fail))
        refine wpQuiet_nil ?_
        have hA := HA.out
        have hg2 := (hA.g.keep (w1 := wr.drew) rfl).below HB2.out
        have hml := mixN_length (b := r.take 64) hA.g.len
        have Hg3 := Lib.hid (hg2.st (s' := mixN s (r.take 64)) hml)
        have HGr3 := Lib.hid (((grown_drew wr (some b)).trans (grown_below HB2.out (some b))).trans (setCells_grown b (arr .u32 (mixN s (r.take 64))).toList 0 w2))
        have HML := Lib.hid hml
        have hth := hg2.there
        clear hA hg2 hml
        refine wpList_store_mid rfl 149 (.tmp 53) (.tmp 51) rfl b 0 (arr .u32 (mixN s (r.take 64))) rfl rfl (by rw [arr_size, HML.out]; exact hth) (by rw [arr_size, HML.out]; exact info_a8) (arr_one _ _) ?_
        clear hth
        refine NoPanic.normal ?_
        go_wp2_with fail
        go_roundg k
        case measure => have := HJ.out; have := H64.out; omega
        case rel => exact ⟨mixN s (r.take 64), r.drop 64, A2, c2, by rw [List.length_drop], Lib.hid (by rw [List.length_drop]; have := HJ.out; have := H64.out; omega), Lib.hid (by
          have hA := HA.out
          have hdl : (r.drop 64).length = r.length - 64 := by rw [List.length_drop]
          exact ⟨Hg3.out, mixN_lt, by rw [hdl]; exact Hc2.out, by rw [hdl]; exact C_ty (HCf.out _ _ hA.row) (HTy2.out) hA.g.blk (by decide) HGr3.out, HTy2.out.move (grown_keep HGr3.out HTy2.out hA.g.blk (by decide)), drop_lt _ hA.lt8, hA.gr.trans HGr3.out⟩), Lib.hid ⟨(stN_step H64.out).symm.trans HE.out.1, (lfN_step H64.out).symm.trans HE.out.2⟩⟩
      · have hlt : r.length < 64 := by omega
        have t1 : decide ((64 : Int) ≤ (r.length : Int)) = false := decide_eq_false (by omega)
        have t2 : (r.length : Int) < 64 := by omega
        have hE := HE.out
        rw [stN_small hlt, lfN_small hlt] at hE
        have HE2 := Lib.hid hE
        have HLt := Lib.hid hlt
        have f8 := hA.g.fz 8
        clear hE hlt HE h64
        have HAA := Lib.hid hA
        clear hA HA
        go_wp2_with (at_builtin; refine appn (w0 := wr) .u8 wr.heap.size (.tmp 57) (.tmp 58) 41 5 1 rfl rfl Try.underlying41 info_u8 (by decide) _ [] (nat r) _ _ _ rfl rfl (R_empty (Nat.le_refl _) _ rfl) (Kd.C_alloc HAA.out.row _) ((Below.refl _ _).alloc (Nat.le_refl _) _) (by simp) (by have := HLt.out; simp; omega) ?_; intro v1 w2 ho2 hb2 _; obtain ⟨A2, c2, rfl, hc2, hC2⟩ := Kd.R_reads ho2; rw [List.nil_append, nat_length] at hc2 hC2; rw [List.nil_append, nat_length] at ho2 ⊢; (have HT2 := Lib.hid (Ty_R ho2)); (have k8 := (HAA.out.g.below hb2).c8); (have f8' := (HAA.out.g.below hb2).fz 8); (have HC2 := Lib.hid hC2); (have Hc2 := Lib.hid hc2); (have HB2 := Lib.hid hb2); clear ho2 hb2 hC2 hc2)
        go_ret
        obtain ⟨e1, e2⟩ := HE2.out
        have hg := (HAA.out.g.below HB2.out).s8 (.slice A2 r.length c2)
        have hgr := (grown_below HB2.out (some b)).trans (grown_set w2 b 8 (.slice A2 r.length c2))
        have hty := HT2.out.move (grown_keep (grown_set w2 b 8 (.slice A2 r.length c2)) HT2.out (HAA.out.g.below HB2.out).blk (by decide))
        have hrow := C_ty HC2.out HT2.out (HAA.out.g.below HB2.out).blk (by decide) (grown_set w2 b 8 (.slice A2 r.length c2))
        have hcap := Hc2.out
        rw [e1] at hg
        rw [← List.length_append] at hg
        subst e2
        exact ⟨rfl, ⟨A2, c2, hg, hcap, hrow, hty, app_lt HL8.out HM.out⟩, HAA.out.gr.trans hgr⟩
end Go.Proofs.Ytblnclooobggnaa.H

namespace Go.Proofs.Ytblnclooobggnaa.H
open Go.RowKit Go.Proofs.Ytblnclooobggnaa.L Go.Proofs.Ytblnclooobggnaa.N Go.Proofs.YtblnclooobggnaaW.PrintWords

abbrev tSum : TypeId := 107
theorem info_sum : (Try.prog.info? tSum).map (·.size) = some 32 := by kernel_rfl
theorem info_u32 : (Try.prog.info? 45).map (·.size) = some 1 := by kernel_rfl
def z32 : List Nat := List.replicate 32 0
set_option maxRecDepth 100000 in
set_option maxHeartbeats 800000 in
theorem sum_nil (w : World) : Calls Try.prog 78 #[.pointer none] w fun e w' => e = .returned (.tuple #[.agg (arr .u8 z32), .int .i64 6]) ∧ Below w.heap.size w w' := by
  go_enter Try.func78, Try.ntmps78
  go_upto_region 2 with (fail)
  refine wp_at fun W hW => ?_
  obtain ⟨h2, h4, hb, hsz⟩ := two_ab (k := .u8) (k' := .u8) z32 z32 hW
  have H2 := Lib.hid h2
  have H4 := Lib.hid h4
  have HB := Lib.hid hb
  have HSz := Lib.hid hsz
  clear hW h2 h4 hb hsz
  go_wp2_with (first
    | (refine load_ab .u8 (w.heap.size + 1) z32 rfl rfl rfl H4.out Try.underlying107 info_sum ?_)
    | (refine store_ab .u8 w.heap.size z32 z32 rfl rfl rfl rfl rfl H2.out info_sum rfl ?_; intro W2 hs2 hg2; (have HS2 := Lib.hid hs2); (have HG2 := Lib.hid hg2); clear hs2 hg2))
  have hl := HS2.out.load (P := Try.prog) Try.underlying107 info_sum
  have hb2 := below_grown HB.out (by rw [HSz.out]; omega) HG2.out (Nat.le_refl _)
  exact bodyPost_ret (v := .tuple #[.agg (arr .u8 z32), .int .i64 6]) (by simp [results, Try.results78, hl, asAddr]) rfl ⟨rfl, hb2⟩
/-- how many zeros -/
theorem pad_more {r j : Nat} (hr : r < 64) (hj : j < (119 - r) % 64) : (r + 1 + j) % 64 ≠ 56 := by omega
theorem pad_done {r : Nat} (hr : r < 64) : (r + 1 + (119 - r) % 64) % 64 = 56 := by omega
/-- eight bytes of a length -/
def szN (n : Nat) : List Nat := (List.range 8).map (fun i => n * 8 / 256 ^ (7 - i) % 256)
theorem szN_length (n : Nat) : (szN n).length = 8 := by simp [szN]
theorem szN_get (n : Nat) {k : Nat} (h : k < 8) : (szN n).getD k 0 = n * 8 / 256 ^ (7 - k) % 256 := by
  unfold szN
  rw [List.getD_eq_getElem?_getD, List.getElem?_map, List.getElem?_range h]
  rfl
theorem AB.range {k : IntKind} {t : TypeId} {b : Nat} {l : List Nat} {w : World} (h : AB k t b l w) : w.rangeAt b 0 (l.map (fun x : Nat => Value.int k (x : Int))) := range_blk h fun j v hj => by rw [Nat.zero_add]; exact hj
theorem arr_no {l : List Nat} (i : Nat) (y : Int) : (arr .u32 l)[i]? ≠ some (.int .u8 y) := by
  intro h
  unfold arr at h
  rw [List.getElem?_toArray, List.getElem?_map] at h
  obtain ⟨x, _, e⟩ := Option.map_eq_some_iff.1 h
  injection e with e
  cases e
/-- while the last blocks go in -/
structure PL (b7 : Nat) (S s r : List Nat) (A : Option Addr) (c : Nat) (w0 w : World) : Prop where
  st : AB .u32 tA8 b7 s w
  len : s.length = 8
  sl : ∀ x ∈ s, x < 4294967296
  cap : r.length ≤ c
  row : (Kd.int .u8).C w A r.length (nat r)
  lt8 : ∀ x ∈ r, x < 256
  mod : r.length % 64 = 0
  sum : stN s r = S
  bel : Below w0.heap.size w0 w
set_option maxRecDepth 100000 in
set_option maxHeartbeats 1600000 in
theorem sum_any (b : Nat) (l : List Nat) (w : World) (h : SH b l w) (hlen : l.length ≤ 1152921504606846976) : Calls Try.prog 78 #[.pointer (some ⟨b, 0, none⟩)] w fun e w' => e = .returned (.tuple #[.agg (arr .u8 (shaN l)), .int .i64 0]) ∧ Below w.heap.size w w' := by
  obtain ⟨A, c, h⟩ := h
  have HX := Lib.hid h
  have HLen := Lib.hid hlen
  have c10 := h.g.c10
  have c8 := h.g.c8
  clear h hlen
  have hlt := HX.out.g.lt
  have hb1 : b < w.heap.size + 1 := Nat.lt_succ_of_lt hlt
  go_enter Try.func78, Try.ntmps78
  go_upto_region 2 with (fail)
  refine wp_at fun W hW => ?_
  obtain ⟨h2, h4, hb, hsz⟩ := two_ab (k := .u8) (k' := .u8) z32 z32 hW
  have hx := HX.out.move (hb.block b hlt) (below_keep hb HX.out.ty)
  have H2 := Lib.hid h2
  have H4 := Lib.hid h4
  have HB := Lib.hid hb
  have HSz := Lib.hid hsz
  have HX1 := Lib.hid hx
  have HLt := Lib.hid hlt
  clear hW h2 h4 hb hsz HX c10 c8 hlt hb1
  have c10 := hx.g.c10
  have c8 := hx.g.c8
  have c8' := (hx.g.below (w1 := W.alloc (.cells #[] 5)) ((Below.refl _ _).alloc (Nat.le_refl _) _)).c8
  clear hx
  go_wp2_with (first
    | (at_builtin; refine appn (w0 := W) .u8 W.heap.size (.tmp 21) (.tmp 25) 41 5 1 rfl rfl Try.underlying41 info_u8 (by decide) _ [] (nat (lfN l)) A _ c rfl rfl (R_empty (Nat.le_refl _) _ rfl) (Kd.C_alloc HX1.out.row _) ((Below.refl _ _).alloc (Nat.le_refl _) _) (by simp) (by have := lfN_length l; simp; omega) ?_; intro v1 w2 ho2 hb2 _; (have HO2 := Lib.hid ho2); (have HB2 := Lib.hid hb2); clear ho2 hb2)
    | (at_builtin; refine app1 (w0 := W) .u8 W.heap.size (.tmp 26) (.tmp 27) 41 5 1 rfl rfl Try.underlying41 info_u8 (by decide) v1 (nat (lfN l)) 128 rfl rfl HO2.out HB2.out HB2.out.size (by have := lfN_length l; rw [nat_length]; omega) ?_; intro v2 w3 ho3 hb3 _; (have HO3 := Lib.hid ho3); (have HB3 := Lib.hid hb3); clear ho3 hb3))
  have HR0 := Lib.hid (show (Kd.int .u8).R 5 w3 W.heap.size (fun _ => True) v2 (nat (lfN l ++ 128 :: List.replicate 0 0)) from by rw [nat_app]; exact HO3.out)
  have HRl := Lib.hid (show (lfN l).length < 64 from by have := lfN_length l; omega)
  clear HO2 HB2 HO3 c8' c8 c10
  go_loopg [5] ((119 - (lfN l).length) % 64 + 1) (fun g v5 w' => ∃ j : Nat, Hid (j ≤ (119 - (lfN l).length) % 64 ∧ (119 - (lfN l).length) % 64 < g + j) ∧ Hid ((Kd.int .u8).R 5 w' W.heap.size (fun _ => True) v5 (nat (lfN l ++ 128 :: List.replicate j 0))) ∧ Hid (Below W.heap.size W w'))
  case atStart => exact ⟨0, Lib.hid ⟨by omega, by omega⟩, HR0, HB3⟩
  case round =>
    obtain ⟨j, HJ, HR, HBl⟩ := hrel
    clear HR0 HB3
    cases gk with
    | zero => have := HJ.out; omega
    | succ k =>
      have hR := HR.out
      obtain ⟨A2, c2, hv, hc2, hC2⟩ := Kd.R_reads hR
      subst hv
      obtain ⟨n, hn⟩ : ∃ n, (nat (lfN l ++ 128 :: List.replicate j 0)).length = n := ⟨_, rfl⟩
      have hnn : (lfN l).length + 1 + j = n := by rw [← hn, nat_length]; simp; omega
      obtain ⟨m, hm⟩ : ∃ m, n % 64 = m := ⟨_, rfl⟩
      have q1 : (n : Int) % 64 = (m : Int) := by omega
      have q2 : (0 : Int) ≤ (m : Int) := by omega
      have q3 : (m : Int) < 64 := by omega
      have HNN := Lib.hid hnn
      have HNe := Lib.hid hn
      have hll := HLen.out
      by_cases hlt : j < (119 - (lfN l).length) % 64
      · have HJ' := Lib.hid (show j < (119 - (lfN l).length) % 64 ∧ (119 - (lfN l).length) % 64 < (k + 1) + j from ⟨hlt, HJ.out.2⟩)
        have h56 : m ≠ 56 := by have := pad_more HRl.out hlt; omega
        have t1 : ((m : Int) != 56) = true := by rw [bne_iff_ne]; omega
        have t2 : ((m : Int) == 56) = false := by rw [beq_eq_false_iff_ne]; omega
        have hnl : n ≤ 200 := by have := HRl.out; omega
        have HRn := Lib.hid hR
        have HNl := Lib.hid hnl
        clear hC2 hc2 hR HR hm hn hnn h56 HJ hlt hll hnl
        rw [HNe.out] at HRn ⊢
        go_wp2_with (at_builtin; refine app1 (w0 := W) .u8 W.heap.size (.tmp 33) (.tmp 34) 41 5 1 rfl rfl Try.underlying41 info_u8 (by decide) (.slice A2 n c2) (nat (lfN l ++ 128 :: List.replicate j 0)) 0 rfl rfl HRn.out HBl.out HBl.out.size (by rw [HNe.out]; have := HNl.out; omega) ?_; intro v4 w4 ho4 hb4 _; (have HO4 := Lib.hid ho4); (have HB4 := Lib.hid hb4); clear ho4 hb4)
        go_roundg k
        case measure => have := HJ'.out; omega
        case rel => exact ⟨j + 1, Lib.hid (by have := HJ'.out; omega), Lib.hid (by
          have h := HO4.out
          rw [show nat (lfN l ++ 128 :: List.replicate j 0) ++ [0] = nat (lfN l ++ 128 :: List.replicate (j + 1) 0) from by
            rw [List.replicate_succ', show lfN l ++ 128 :: (List.replicate j 0 ++ [0]) = (lfN l ++ 128 :: List.replicate j 0) ++ [0] from by simp, nat_app (lfN l ++ 128 :: List.replicate j 0) [0]]
            rfl] at h
          exact h), HB4⟩
      · have hj : j = (119 - (lfN l).length) % 64 := by have := HJ.out; omega
        have h56 : m = 56 := by have := pad_done HRl.out; omega
        have t1 : ((m : Int) != 56) = false := by rw [h56]; rfl
        have t2 : ((m : Int) == 56) = true := by rw [h56]; rfl
        have HRn := Lib.hid hR
        clear hC2 hc2 hR HR hm hn hnn h56 HJ hlt hll
        rw [HNe.out] at HRn ⊢
        have HJe := Lib.hid hj
        clear hj
        go_wp2_with fail
        clear q1 q2 q3 t1 t2
        have HS0 := Lib.hid (show (Kd.int .u8).R 5 wr W.heap.size (fun _ => True) (.slice A2 n c2) (nat (lfN l ++ 128 :: List.replicate ((119 - (lfN l).length) % 64) 0 ++ (szN l.length).take 0)) from by
          rw [List.take_zero, List.append_nil, ← HJe.out]; exact HRn.out)
        clear HRn
        go_loopg [5, 6] 9 (fun g v5 v6 w' => ∃ (q : Nat) (I : Int), v6 = .int .i64 I ∧ Hid (I = 7 - (q : Int)) ∧ Hid (q ≤ 8 ∧ 8 < g + q) ∧ Hid ((Kd.int .u8).R 5 w' W.heap.size (fun _ => True) v5 (nat (lfN l ++ 128 :: List.replicate ((119 - (lfN l).length) % 64) 0 ++ (szN l.length).take q))) ∧ Hid (Below W.heap.size W w'))
        case atStart => exact ⟨0, 7, rfl, Lib.hid rfl, Lib.hid ⟨by omega, by omega⟩, HS0, HBl⟩
        case round =>
          obtain ⟨q, I, rfl, HI, HQ, HR, HBl2⟩ := hrel
          clear HS0 HBl
          cases gk with
          | zero => have := HQ.out; omega
          | succ k2 =>
            have hI := HI.out
            by_cases hq8 : q < 8
            · have HQ' := Lib.hid (show q < 8 ∧ 8 < (k2 + 1) + q from ⟨hq8, HQ.out.2⟩)
              obtain ⟨i, hi⟩ : ∃ i : Nat, I = (i : Int) := ⟨(7 - q), by omega⟩
              subst hi
              have c9 := (HX1.out.g.below HBl2.out).c9
              have z1 : (0 : Int) ≤ (i : Int) := by omega
              have z2 : (i : Int) ≤ 7 := by omega
              have z3 : (l.length : Int) ≤ 1152921504606846976 := by have := HLen.out; omega
              clear hI hq8 HQ
              have hR := HR.out
              obtain ⟨A3, c3, hv, hc3, hC3⟩ := Kd.R_reads hR
              subst hv
              have HRn := Lib.hid hR
              have HYy := Lib.hid (show ((l.length : Int) * 8 / 2 ^ (8 * i) % 256) = (((szN l.length).getD q 0 : Nat) : Int) from by
                have := HI.out
                have hq := HQ'.out.1
                rw [szN_get _ hq, show 7 - q = i from by omega, show (256 : Nat) ^ i = 2 ^ (8 * i) from by rw [Nat.pow_mul]]
                simp)
              have hln : (nat (lfN l ++ 128 :: List.replicate ((119 - (lfN l).length) % 64) 0 ++ (szN l.length).take q)).length ≤ 300 := by
                rw [nat_length]
                have := HRl.out
                have := szN_length l.length
                simp only [List.length_append, List.length_cons, List.length_replicate, List.length_take]
                omega
              have HLn := Lib.hid hln
              clear hC3 hc3 hR HR hln
              go_wp2_with (at_builtin; refine app1 (w0 := W) .u8 W.heap.size (.tmp 40) (.tmp 51) 41 5 1 rfl rfl Try.underlying41 info_u8 (by decide) _ (nat (lfN l ++ 128 :: List.replicate ((119 - (lfN l).length) % 64) 0 ++ (szN l.length).take q)) ((l.length : Int) * 8 / 2 ^ (8 * i) % 256) rfl rfl HRn.out HBl2.out HBl2.out.size (by have := HLn.out; omega) ?_; intro v4 w4 ho4 hb4 _; (have HO4 := Lib.hid ho4); (have HB4 := Lib.hid hb4); clear ho4 hb4)
              go_roundg k2
              case measure => have := HQ'.out; omega
              case rel => exact ⟨q + 1, _, rfl, Lib.hid (by have := HI.out; omega), Lib.hid (by have := HQ'.out; omega), Lib.hid (by
                have h := HO4.out
                rw [HYy.out, nat_app, List.append_assoc, nat_snoc (by rw [szN_length]; exact HQ'.out.1), ← nat_app] at h
                exact h), HB4⟩
            · have hq : q = 8 := by have := HQ.out; omega
              subst hq
              have hi : I = -1 := by omega
              subst hi
              have hX := HX1.out.g.below HBl2.out
              obtain ⟨s0, hs0⟩ : ∃ s, stN begN l = s := ⟨_, rfl⟩
              rw [hs0] at hX
              have HXg := Lib.hid hX
              have HMl := Lib.hid hX.len
              have HSl := Lib.hid (hs0 ▸ stN_lt l begN_lt)
              have hP : lfN l ++ 128 :: List.replicate ((119 - (lfN l).length) % 64) 0 ++ (szN l.length).take 8 = padN (lfN l) l.length := by
                rw [List.take_of_length_le (by rw [szN_length]; omega), padN, Nat.mod_eq_of_lt HRl.out, List.append_assoc, List.cons_append]
                rfl
              have hR := HR.out
              rw [hP] at hR
              obtain ⟨A3, c3, hv, hc3, hC3⟩ := Kd.R_reads hR
              rw [nat_length] at hv hc3 hC3
              subst hv
              have hpm : (padN (lfN l) l.length).length % 64 = 0 := by
                rw [padN_eq, List.length_append]; exact endN_length _ _
              have hpl : (padN (lfN l) l.length).length ≤ 192 := by
                have := HRl.out
                rw [padN_eq, List.length_append]
                simp only [endN, List.length_cons, List.length_append, List.length_replicate, List.length_map, List.length_range]
                omega
              have hpb : ∀ x ∈ padN (lfN l) l.length, x < 256 := by
                rw [padN_eq]; exact app_lt (drop_lt _ HX1.out.lt8) (endN_lt _ _)
              have hps : outN (stN s0 (padN (lfN l) l.length)) = shaN l := by rw [← hs0]; exact sha_left l
              have HP := Lib.hid (show (padN (lfN l) l.length).length % 64 = 0 ∧ (padN (lfN l) l.length).length ≤ 192 ∧ (∀ x ∈ padN (lfN l) l.length, x < 256) ∧ outN (stN s0 (padN (lfN l) l.length)) = shaN l from ⟨hpm, hpl, hpb, hps⟩)
              have HC3 := Lib.hid hC3
              have Hc3 := Lib.hid hc3
              clear hX hs0 hP hR HR hC3 hc3 hpm hpl hpb hps HQ hq8 HI hI HNe HNN HJe
              generalize padN (lfN l) l.length = P at HP HC3 Hc3 ⊢
              go_wp2_with (first
                | (refine wpList_load_mid rfl 149 (.tmp 55) rfl b 0 rfl _ _ HXg.out.range Try.underlying149 rfl (by rw [List.length_map, HMl.out]; exact info_a8) ?_)
                | (refine store_ab .u32 wr.heap.size (List.replicate 8 0) s0 rfl rfl rfl rfl rfl (AB.mk wr .u32 tA8 (List.replicate 8 0)) (by rw [HMl.out]; exact info_a8) (by rw [HMl.out]; rfl) ?_; intro W2 h8 hg8; (have R8 := Lib.hid h8); (have RG8 := Lib.hid hg8); clear h8 hg8))
              have hb7 : Below wr.heap.size wr W2 := below_grown ((Below.refl _ _).alloc (Nat.le_refl _) _) (by simp) RG8.out (Nat.le_refl _)
              have hBW := HBl2.out.size
              have M0 := Lib.hid (show PL wr.heap.size (stN s0 P) s0 P A3 c3 W W2 from ⟨R8.out, HMl.out, HSl.out, Hc3.out, Kd.C_below HC3.out hb7, HP.out.2.2.1, HP.out.1, rfl, HBl2.out.trans (hb7.mono hBW)⟩)
              have HW7 := Lib.hid (show W.heap.size ≤ wr.heap.size from hBW)
              have HPl := Lib.hid HP.out.2.1
              have HPs := Lib.hid HP.out.2.2.2
              clear hb7 hBW HC3 Hc3 RG8 R8 HXg HP
              generalize wr.heap.size = b7 at *
              generalize stN s0 P = S at M0 HPs
              go_loopg [5] (P.length + 1) (fun g v5 w' => ∃ (s r : List Nat) (A3 : Option Addr) (c3 : Nat), v5 = .slice A3 r.length c3 ∧ Hid (r.length < g) ∧ Hid (PL b7 S s r A3 c3 W w'))
              case atStart => exact ⟨s0, P, A3, c3, rfl, Lib.hid (Nat.lt_succ_self _), M0⟩
              case round =>
                obtain ⟨s, r, A3, c3, rfl, HG, HL⟩ := hrel
                clear M0
                cases gk with
                | zero => have := HG.out; omega
                | succ k3 =>
                  have hL := HL.out
                  have hmx := (B_open hL.row).1
                  by_cases h0 : 0 < r.length
                  · have h64 : 64 ≤ r.length := by have := hL.mod; omega
                    have t1 : decide ((0 : Int) < (r.length : Int)) = true := decide_eq_true (by omega)
                    have t2 : (0 : Int) < (r.length : Int) := by omega
                    have t3 : (64 : Int) ≤ (r.length : Int) := by omega
                    obtain ⟨hct, hCt⟩ := cutT A3 r.length c3 64 64 rfl h64 hL.cap
                    obtain ⟨A4, c4, hcf, hc4, hCf⟩ := cutF A3 r.length c3 64 64 rfl h64 hL.cap
                    have hlb := hL.st.lt
                    have hld : ∀ n : Q.GW wr.drew wr.heap.size none, (Instr.loadAt 149 (.pointer (some ⟨b7, 0, none⟩))).run Try.prog n.w = .ok (.agg (arr .u32 s)) n.w := fun n =>
                      run_loadAt_mid n.w b7 0 149 _ _ (H.AB.range (hL.st.drew.below hlb (Q.GW.below (W := wr.drew) n))) Try.underlying149 rfl (by rw [List.length_map, hL.len]; exact info_a8)
                    have ht64 : (r.take 64).length = 64 := by rw [List.length_take]; omega
                    have hq := mix_any s (r.take 64) A3 c3 wr.drew hL.len hL.sl ht64 (take_lt _ hL.lt8) (by rw [ht64]; exact Kd.C_drew (hCt _ _ hL.row)) (by rw [ht64]; have := hL.cap; omega)
                    rw [ht64] at hq
                    have HQ := Lib.hid hq
                    have H64 := Lib.hid h64
                    have HCf := Lib.hid hCf
                    have Hc4 := Lib.hid hc4
                    clear hL hCt hCf hc4 hq ht64 h64 h0 hlb
                    go_wp2_with fail
                    refine Q.wp_region_segsF none [([0, 1, 2], some 3)] [] 4 (by kernel_rfl) (by kernel_rfl) (by kernel_rfl) (by kernel_rfl) ?_
                    dsimp only [Q.wpSegsF, Q.picks, Q.pick]
                    refine quiet_load 149 (.tmp 7) (.pointer (some ⟨b7, 0, none⟩)) (.agg (arr .u32 s)) rfl rfl rfl (by rintro w' ⟨n, rfl⟩; exact hld n) ?_
                    go_simp
                    repeat (go_big_quiet_step (fail))
                    refine wpQuiet_nil ?_
                    go_wp2_with (go_at_call 87; refine HQ.out.mono ?_; rintro e w4 ⟨rfl, hb4⟩; (have HB4 := Lib.hid hb4); clear hb4)
                    refine Q.ev_keep HB4.out (Nat.le_refl _) ?_
                    clear hld HQ
                    refine wpQuiet_nil ?_
                    refine store_ab .u32 b7 s (mixN s (r.take 64)) rfl rfl rfl rfl rfl (HL.out.st.drew.below HL.out.st.lt HB4.out) (by rw [mixN_length HL.out.len]; exact info_a8) (by rw [mixN_length HL.out.len, HL.out.len]) ?_
                    intro w5 h5 hg5
                    have HM5 := Lib.hid (show PL b7 S (mixN s (r.take 64)) (r.drop 64) A4 c4 W w5 from by
                      have hL := HL.out
                      have hdl : (r.drop 64).length = r.length - 64 := by rw [List.length_drop]
                      have h64 := H64.out
                      have hst := hL.st.drew.below hL.st.lt HB4.out
                      have hc := HCf.out _ _ (Kd.C_below (Kd.C_drew hL.row) HB4.out)
                      exact ⟨h5, mixN_length hL.len, mixN_lt, by rw [hdl]; exact Hc4.out, by rw [hdl]; exact C_apart hc hst arr_no hg5, drop_lt _ hL.lt8, by rw [hdl]; have := hL.mod; omega, (stN_step h64).symm.trans hL.sum, below_grown ((hL.bel.drew).trans (HB4.out.mono hL.bel.size)) (Nat.le_trans hL.bel.size HB4.out.size) hg5 (HW7.out)⟩)
                    clear h5 hg5
                    refine NoPanic.normal ?_
                    go_wp2_with fail
                    go_roundg k3
                    case measure => have := HG.out; have := H64.out; omega
                    case rel => exact ⟨_, r.drop 64, A4, c4, by rw [List.length_drop], Lib.hid (by rw [List.length_drop]; have := HG.out; have := H64.out; omega), HM5⟩
                  · have hr : r = [] := List.eq_nil_of_length_eq_zero (by omega)
                    subst hr
                    have hsum := hL.sum
                    rw [stN_small (by simp)] at hsum
                    subst hsum
                    have HL2 := Lib.hid hL
                    clear hL HL HG h0
                    go_wp2_with (refine load_ab .u32 b7 s rfl rfl rfl HL2.out.st Try.underlying149 (by rw [HL2.out.len]; exact info_a8) ?_)
                    have hsz := HSz.out
                    have h2 := H2.out.below (by omega) HL2.out.bel
                    have h4 := H4.out.below (by omega) HL2.out.bel
                    have hol : (outN s).length = 32 := outN_length HL2.out.len
                    have h40 : AB .u8 tSum (w.heap.size + 1) (fl (outN s) 0) wr := by rw [fl_zero, hol, show List.replicate 32 0 = z32 from rfl]; exact h4
                    have HA2 := Lib.hid h2
                    have HA0 := Lib.hid h40
                    have HOl := Lib.hid hol
                    have HSs := Lib.hid (show s.length = 8 from HL2.out.len)
                    have HBel := Lib.hid (HB.out.trans (HL2.out.bel.mono HB.out.size))
                    clear hsz h2 h4 h40 hol
                    go_loopg [67] 9 (fun g v67 w' => ∃ i : Nat, v67 = .int .i64 i ∧ Hid (i ≤ 8 ∧ 8 < g + i) ∧ Hid (AB .u8 tSum (w.heap.size + 1) (fl (outN s) (4 * i)) w') ∧ Hid (wr.grownBy w' (some (w.heap.size + 1))))
                    case atStart => exact ⟨0, rfl, Lib.hid ⟨by omega, by omega⟩, HA0, Lib.hid (World.grownBy.refl _ _)⟩
                    case round =>
                      obtain ⟨i, rfl, HJ, HA, HGr⟩ := hrel
                      clear HA0
                      cases gk with
                      | zero => have := HJ.out; omega
                      | succ k4 =>
                        by_cases hi8 : i < 8
                        · have HJ' := Lib.hid (show i < 8 ∧ 8 < (k4 + 1) + i from ⟨hi8, HJ.out.2⟩)
                          have z1 : (0 : Int) ≤ (i : Int) := by omega
                          have z2 : (i : Int) < 8 := by omega
                          have hget := index_arr (P := Try.prog) Try.underlying149 Try.underlying45 rfl info_u32 .u32 s HSs.out i hi8 (i : Int) rfl
                          obtain ⟨x, hx⟩ : ∃ x, s.getD i 0 = x := ⟨_, rfl⟩
                          rw [hx] at hget
                          have HXx := Lib.hid hx
                          clear HJ hi8 hx
                          go_wp2_with fail
                          have HB0 := Lib.hid (show AB .u8 tSum (w.heap.size + 1) (fl (outN s) (4 * i + 0)) wr from HA.out)
                          clear HA
                          go_loopg [71] 5 (fun g v71 w' => ∃ k : Nat, v71 = .int .i64 k ∧ Hid (k ≤ 4 ∧ 4 < g + k) ∧ Hid (AB .u8 tSum (w.heap.size + 1) (fl (outN s) (4 * i + k)) w') ∧ Hid (wr.grownBy w' (some (w.heap.size + 1))))
                          case atStart => exact ⟨0, rfl, Lib.hid ⟨by omega, by omega⟩, HB0, Lib.hid (World.grownBy.refl _ _)⟩
                          case round =>
                            obtain ⟨k, rfl, HK, HA, HGr2⟩ := hrel
                            clear HB0
                            cases gk with
                            | zero => have := HK.out; omega
                            | succ k5 =>
                              by_cases hk4 : k < 4
                              · have HK' := Lib.hid (show k < 4 ∧ 4 < (k5 + 1) + k from ⟨hk4, HK.out.2⟩)
                                have y1 : (0 : Int) ≤ (k : Int) := by omega
                                have y2 : (k : Int) < 4 := by omega
                                have hix := HJ'.out.1
                                have hll : 4 * i + k < (outN s).length := by rw [HOl.out]; omega
                                have hcc := HA.out.cell (i := 4 * i + k) (by rw [fl_length _ (Nat.le_of_lt hll)]; exact hll)
                                have hfz := HA.out.fz (4 * i + k)
                                clear HK hk4 hix hll
                                generalize (fl (outN s) (4 * i + k)).getD (4 * i + k) 0 = y at hcc
                                have HV := Lib.hid (show ((x : Int) / 2 ^ (24 - 8 * k) % 256) = (((outN s).getD (4 * i + k) 0 : Nat) : Int) from by
                                  rw [outN_get (by rw [HSs.out]; exact HJ'.out.1) HK'.out.1, HXx.out]
                                  simp)
                                go_wp2_with fail
                                go_roundg k5
                                case measure => have := HK'.out; omega
                                case rel => exact ⟨k + 1, by go_num, Lib.hid (by have := HK'.out; omega), Lib.hid (by
                                  rw [HV.out]
                                  have h := HA.out.set (4 * i + k) ((outN s).getD (4 * i + k) 0)
                                  rw [fl_step (by rw [HOl.out]; have := HJ'.out; have := HK'.out; omega)] at h
                                  exact h), Lib.hid (HGr2.out.trans (grown_set _ _ _ _))⟩
                              · have hk : k = 4 := by have := HK.out; omega
                                subst hk
                                clear hget
                                go_wp2_with fail
                                go_roundg k4
                                case measure => have := HJ'.out; omega
                                case rel => exact ⟨i + 1, by go_num, Lib.hid (by have := HJ'.out; omega), HA, Lib.hid (HGr.out.trans HGr2.out)⟩
                        · have hi : i = 8 := by have := HJ.out; omega
                          subst hi
                          have hA := HA.out
                          rw [show fl (outN s) (4 * 8) = shaN l from by
                            have := fl_all (outN s)
                            rw [HOl.out] at this
                            rw [show 4 * 8 = 32 from rfl, this, HPs.out]] at hA
                          have h2 := HA2.out.grown HGr.out (by intro e; injection e with e; omega)
                          have hbl := below_grown HBel.out HBel.out.size HGr.out (by omega)
                          obtain ⟨R, hR⟩ : ∃ R, shaN l = R := ⟨_, rfl⟩
                          have hRl := shaN_length l
                          rw [hR] at hA hRl
                          have HE := Lib.hid hA
                          have HE2 := Lib.hid h2
                          have HEl := Lib.hid hRl
                          have HRR := Lib.hid hR
                          have HEb := Lib.hid hbl
                          clear hA h2 hbl hRl hR HJ hi8
                          go_wp2_with (first
                            | (refine load_ab .u8 (w.heap.size + 1) R rfl rfl rfl HE.out Try.underlying107 (by rw [HEl.out]; exact info_sum) ?_)
                            | (refine store_ab .u8 w.heap.size z32 R rfl rfl rfl rfl rfl HE2.out (by rw [HEl.out]; exact info_sum) (by rw [HEl.out]; rfl) ?_; intro W9 h9 hg9; (have R9 := Lib.hid h9); (have RG9 := Lib.hid hg9); clear h9 hg9))
                          have hl := R9.out.load (P := Try.prog) Try.underlying107 (by rw [HEl.out]; exact info_sum)
                          have hb9 := below_grown HEb.out HEb.out.size RG9.out (Nat.le_refl _)
                          exact bodyPost_ret (v := .tuple #[.agg (arr .u8 R), .int .i64 0]) (by simp [results, Try.results78, hl, asAddr]) rfl ⟨by rw [HRR.out], hb9⟩
end Go.Proofs.Ytblnclooobggnaa.H
