/-
  sha: a sum in memory; New, Len, Add.
-/
import Derived.Test.YtagfplcafeblbaaHg
import Derived.Test.YtagfplcafeblbaaNt
namespace Go.Proofs.Ytagfplcafeblbaa.H
open Go.RowKit Go.Proofs.Ytagfplcafeblbaa.L Go.Proofs.Ytagfplcafeblbaa.N Go.Proofs.YtagfplcafeblbaaW.PrintWords

abbrev tSh : TypeId := 36
/-- the cells of a sum -/
def shc (s : List Nat) (v : Value) (n : Nat) (m : Bool) : List Value := s.map (fun x : Nat => Value.int .u32 (x : Int)) ++ [v, .int .i64 (n : Int), .bool m]
structure SG (b : Nat) (s : List Nat) (v : Value) (n : Nat) (m : Bool) (w : World) : Prop where
  blk : w.heap[b]? = some (.cells (shc s v n m).toArray tSh (0, 0))
  len : s.length = 8
theorem SG.lt {b n : Nat} {s : List Nat} {v : Value} {m : Bool} {w : World} (h : SG b s v n m w) : b < w.heap.size := blk_lt h.blk
theorem SG.c8 {b n : Nat} {s : List Nat} {v : Value} {m : Bool} {w : World} (h : SG b s v n m w) : w.cell? ⟨b, 8, none⟩ = some v := by
  have hl := h.len
  rw [blk_cell h.blk, List.getElem?_toArray, shc, List.getElem?_append_right (by simp; omega)]
  simp [hl]
theorem SG.c9 {b n : Nat} {s : List Nat} {v : Value} {m : Bool} {w : World} (h : SG b s v n m w) : w.cell? ⟨b, 9, none⟩ = some (.int .i64 (n : Int)) := by
  have hl := h.len
  rw [blk_cell h.blk, List.getElem?_toArray, shc, List.getElem?_append_right (by simp; omega)]
  simp [hl]
theorem SG.c10 {b n : Nat} {s : List Nat} {v : Value} {m : Bool} {w : World} (h : SG b s v n m w) : w.cell? ⟨b, 10, none⟩ = some (.bool m) := by
  have hl := h.len
  rw [blk_cell h.blk, List.getElem?_toArray, shc, List.getElem?_append_right (by simp; omega)]
  simp [hl]
theorem SG.fz {b n : Nat} {s : List Nat} {v : Value} {m : Bool} {w : World} (h : SG b s v n m w) (i : Nat) : w.frozen? ⟨b, i, none⟩ = false := blk_frozen h.blk i
theorem SG.s8 {b n : Nat} {s : List Nat} {v : Value} {m : Bool} {w : World} (h : SG b s v n m w) (u : Value) : SG b s u n m (w.setCell ⟨b, 8, none⟩ u) := by
  have hl := h.len
  refine ⟨?_, hl⟩
  rw [blk_set h.blk 8 u]
  simp only [shc, List.setIfInBounds_toArray]
  rw [List.set_append_right _ _ (by simp; omega)]
  simp [hl]
theorem SG.s9 {b n : Nat} {s : List Nat} {v : Value} {m : Bool} {w : World} (h : SG b s v n m w) (k : Nat) : SG b s v k m (w.setCell ⟨b, 9, none⟩ (.int .i64 (k : Int))) := by
  have hl := h.len
  refine ⟨?_, hl⟩
  rw [blk_set h.blk 9 _]
  simp only [shc, List.setIfInBounds_toArray]
  rw [List.set_append_right _ _ (by simp; omega)]
  simp [hl]
theorem SG.keep {b n : Nat} {s : List Nat} {v : Value} {m : Bool} {w w1 : World} (h : SG b s v n m w) (hm : w1.heap[b]? = w.heap[b]?) : SG b s v n m w1 := ⟨hm.trans h.blk, h.len⟩
theorem SG.below {b n : Nat} {s : List Nat} {v : Value} {m : Bool} {w w1 : World} (h : SG b s v n m w) (hb : Below w.heap.size w w1) : SG b s v n m w1 := h.keep (hb.block b h.lt)
theorem SG.range {b n : Nat} {s : List Nat} {v : Value} {m : Bool} {w : World} (h : SG b s v n m w) : w.rangeAt b 0 (s.map (fun x : Nat => Value.int .u32 (x : Int))) := by
  refine range_blk h.blk fun j u hj => ?_
  have hlt : j < (s.map (fun x : Nat => Value.int .u32 (x : Int))).length := (List.getElem?_eq_some_iff.1 hj).1
  rw [Nat.zero_add, shc, List.getElem?_append_left hlt]
  exact hj
theorem info_a8 : (Try.prog.info? 34).map (·.size) = some 8 := by kernel_rfl
theorem SG.load {b n : Nat} {s : List Nat} {v : Value} {m : Bool} {w : World} (h : SG b s v n m w) : (Instr.loadAt 34 (.pointer (some ⟨b, 0, none⟩))).run Try.prog w = .ok (.agg (arr .u32 s)) w :=
  run_loadAt_mid w b 0 34 _ _ h.range Try.underlying34 rfl (by rw [List.length_map, h.len]; exact info_a8)
theorem SG.st {b n : Nat} {s s' : List Nat} {v : Value} {m : Bool} {w : World} (h : SG b s v n m w) (hs : s'.length = 8) : SG b s' v n m (w.setCells b 0 (arr .u32 s').toList) := by
  refine ⟨?_, hs⟩
  have hl := h.len
  have := setCells_blk b tSh (arr .u32 s').toList 0 _ w h.blk (by simp [arr, shc, hs, hl])
  rw [this]
  congr 2
  simp [splice, shc, arr, hs, hl]
theorem SG.there {b n : Nat} {s : List Nat} {v : Value} {m : Bool} {w : World} (h : SG b s v n m w) : w.there b 0 8 := there_blk h.blk (by have := h.len; simp [shc]; omega)
/-- what was added to a sum, and the row of what is left -/
structure SHA (b : Nat) (l : List Nat) (A : Option Addr) (c : Nat) (w : World) : Prop where
  g : SG b (stN begN l) (.slice A (lfN l).length c) l.length true w
  cap : (lfN l).length ≤ c
  row : (Kd.int .u8).C w A (lfN l).length (nat (lfN l))
  ty : Ty w 5 A
  lt8 : ∀ x ∈ l, x < 256
def SH (b : Nat) (l : List Nat) (w : World) : Prop := ∃ A c, SHA b l A c w
theorem SHA.move {b : Nat} {l : List Nat} {A : Option Addr} {c : Nat} {w w1 : World} (h : SHA b l A c w) (h1 : w1.heap[b]? = w.heap[b]?) (hm : ∀ ad, A = some ad → w1.heap[ad.block]? = w.heap[ad.block]?) : SHA b l A c w1 :=
  ⟨h.g.keep h1, h.cap, C_move h.row hm, h.ty.move hm, h.lt8⟩
theorem SH.below {b : Nat} {l : List Nat} {w w1 : World} (h : SH b l w) (hb : Below w.heap.size w w1) : SH b l w1 := by
  obtain ⟨A, c, h⟩ := h
  exact ⟨A, c, h.move (hb.block b h.g.lt) (below_keep hb h.ty)⟩
theorem SH.lt {b : Nat} {l : List Nat} {w : World} (h : SH b l w) : b < w.heap.size := by
  obtain ⟨A, c, h⟩ := h
  exact h.g.lt
theorem SH.lt8 {b : Nat} {l : List Nat} {w : World} (h : SH b l w) : ∀ x ∈ l, x < 256 := by
  obtain ⟨A, c, h⟩ := h
  exact h.lt8
/-- another object's call leaves a sum alone -/
theorem SH.other {b k : Nat} {l : List Nat} {w w1 : World} {t : TypeId} {cs : Array Value} {fr : Nat × Nat} (h : SH b l w) (hk : w.heap[k]? = some (.cells cs t fr)) (h1 : t ≠ tSh) (h2 : 5 ≠ t) (hg : w.grownBy w1 (some k)) : SH b l w1 := by
  obtain ⟨A, c, h⟩ := h
  refine ⟨A, c, h.move (hg.block b h.g.lt (fun e => ?_)) (grown_keep hg h.ty hk h2)⟩
  injection e with e
  subst e
  rw [h.g.blk] at hk
  injection hk with hk
  injection hk with _ hk _
  exact h1 hk.symm
set_option maxRecDepth 100000 in
set_option maxHeartbeats 800000 in
theorem new_any (w : World) : Calls Try.prog 15 #[] w fun e w' => ∃ b, e = .returned (.pointer (some ⟨b, 0, none⟩)) ∧ w.heap.size ≤ b ∧ SH b [] w' ∧ Below w.heap.size w w' := by
  go_enter Try.func15, Try.ntmps15
  go_wp2_with fail
  refine (begin_any w).mono ?_
  rintro e w1 ⟨rfl, hb⟩
  have HB := Lib.hid hb
  clear hb
  rw [show u32s begN = arr .u32 begN from rfl]
  go_wp2_with (refine H.wpList_build (.agg (shc begN (.slice none 0 0) 0 true).toArray) rfl rfl (by kernel_rfl) ?_)
  refine bodyPost_ret (v := .pointer (some ⟨w1.heap.size, 0, none⟩)) (by simp [results, Try.results15, go_sem]) rfl ?_
  have hb := HB.out
  refine ⟨w1.heap.size, rfl, hb.size, ⟨none, 0, ⟨⟨?_, rfl⟩, Nat.le_refl _, ?_, Ty.none_ _ _, by simp⟩⟩, hb.trans ((Below.refl _ _).alloc hb.size _)⟩
  · exact heap_alloc_new w1 _
  · exact C_none _
set_option maxRecDepth 100000 in
theorem add_nil (v : Value) (w : World) : Calls Try.prog 16 #[.pointer none, v] w fun e w' => e = .returned (.int .i64 6) ∧ w' = w := by
  go_enter Try.func16, Try.ntmps16
  go_wp2_with fail
  go_ret
  exact ⟨rfl, rfl⟩
set_option maxRecDepth 100000 in
theorem add_zero (b : Nat) (s : List Nat) (v u : Value) (n : Nat) (w : World) (h : SG b s v n false w) : Calls Try.prog 16 #[.pointer (some ⟨b, 0, none⟩), u] w fun e w' => e = .returned (.int .i64 6) ∧ w' = w := by
  have c10 := h.c10
  clear h
  go_enter Try.func16, Try.ntmps16
  go_wp2_with fail
  go_ret
  exact ⟨rfl, rfl⟩
theorem shc_no {s : List Nat} {A : Option Addr} {k c n : Nat} {m : Bool} (i : Nat) (y : Int) : (shc s (.slice A k c) n m).toArray[i]? ≠ some (.int .u8 y) := by
  intro h
  rw [List.getElem?_toArray] at h
  have := List.mem_of_getElem? h
  unfold shc at this
  rcases List.mem_append.1 this with h1 | h1
  · obtain ⟨x, _, e⟩ := List.mem_map.1 h1
    injection e with e
    cases e
  · simp at h1
theorem SG.grown {b n : Nat} {s : List Nat} {v : Value} {m : Bool} {w w1 : World} {row : Option Nat} (h : SG b s v n m w) (hg : w.grownBy w1 row) (hne : some b ≠ row) : SG b s v n m w1 := h.keep (hg.block b h.lt hne)
/-- between two blocks that go in -/
structure AD (b n : Nat) (s r : List Nat) (A0 : Option Addr) (k0 c0 : Nat) (A : Option Addr) (c : Nat) (w0 w : World) : Prop where
  g : SG b s (.slice A0 k0 c0) n true w
  sl : ∀ x ∈ s, x < 4294967296
  cap : r.length ≤ c
  row : (Kd.int .u8).C w A r.length (nat r)
  ty : Ty w 5 A
  lt8 : ∀ x ∈ r, x < 256
  gr : w0.grownBy w (some b)
theorem nat_add (a b : Nat) : ((a : Int) + (b : Int)) = ((a + b : Nat) : Int) := (Int.natCast_add a b).symm
set_option maxRecDepth 100000 in
set_option maxHeartbeats 1600000 in
theorem add_any (b : Nat) (l m : List Nat) (B : Option Addr) (cb : Nat) (w : World) (h : SH b l w) (hC : (Kd.int .u8).C w B m.length (nat m)) (hm : ∀ x ∈ m, x < 256) (hlen : l.length + m.length ≤ 1152921504606846976) (hmm : m.length ≤ 70368744177664) :
    Calls Try.prog 16 #[.pointer (some ⟨b, 0, none⟩), .slice B m.length cb] w fun e w' => e = .returned (.int .i64 0) ∧ SH b (l ++ m) w' ∧ w.grownBy w' (some b) := by
  obtain ⟨A, c, h⟩ := h
  have c10 := h.g.c10
  have c9 := h.g.c9
  have f9 := h.g.fz 9
  have HX := Lib.hid h
  have HC := Lib.hid hC
  have HM := Lib.hid hm
  have HLen := Lib.hid (show l.length + m.length ≤ 1152921504606846976 ∧ m.length ≤ 70368744177664 from ⟨hlen, hmm⟩)
  have z1 : (l.length : Int) + (m.length : Int) ≤ 1152921504606846976 := by omega
  have z2 : (0 : Int) ≤ (l.length : Int) := by omega
  have z3 : (0 : Int) ≤ (m.length : Int) := by omega
  clear h hC hm hlen hmm
  go_enter Try.func16, Try.ntmps16
  go_wp2_with fail
  refine wp_at fun W hW => ?_
  rw [nat_add] at hW
  have hX := HX.out
  have hG1 := grown_set w b 9 (.int .i64 ((l.length + m.length : Nat) : Int))
  rw [← hW] at hG1
  have hg1 : SG b (stN begN l) (.slice A (lfN l).length c) (l.length + m.length) true W := hW ▸ hX.g.s9 (l.length + m.length)
  have hrow := C_ty hX.row hX.ty hX.g.blk (by decide) hG1
  have hty := hX.ty.move (grown_keep hG1 hX.ty hX.g.blk (by decide))
  have hC1 := C_apart HC.out hX.g.blk shc_no hG1
  obtain ⟨i0, hi0, _⟩ := info_of info_u8
  have hcut := cut_cap (P := Try.prog) 22 5 Try.underlying22 hi0 A (lfN l).length c hX.cap
  have q8 := gw hg1.lt hg1.c8
  have HCap := Lib.hid hX.cap
  have HN := Lib.hid (show A = none → (lfN l).length = 0 from fun h0 => by
    rcases Nat.eq_zero_or_pos (lfN l).length with hz | hz
    · exact hz
    · obtain ⟨ad, hA, _⟩ := hX.row.2.2 hz
      rw [h0] at hA
      cases hA)
  have HG1 := Lib.hid hG1
  have Hg1 := Lib.hid hg1
  have HR1 := Lib.hid hrow
  have HT1 := Lib.hid hty
  have HC1 := Lib.hid hC1
  have HL8 := Lib.hid hX.lt8
  clear hW hX hG1 hg1 hrow hty hC1 HX HC c10 c9 f9 z1 z2 z3
  refine Q.wp_region_segs none [([0, 1, 2, 3, 4, 5, 6, 7, 8, 9, 10, 11, 12, 13, 14, 15], some 16), ([17], none)] (by kernel_rfl) (by kernel_rfl) (by kernel_rfl) (by kernel_rfl) ?_
  dsimp only [Q.wpSegs, Q.picks, Q.pick]
  repeat (go_big_quiet_step (fail))
  refine wpQuiet_nil ?_
  go_wp2_with (at_builtin; refine appr .u8 (.tmp 38) (.tmp 39) 22 5 1 rfl rfl Try.underlying22 info_u8 (nat (lfN l)) (nat m) A B (lfN l).length m.length cb rfl rfl (Kd.C_drew HR1.out) HT1.out (Kd.C_drew HC1.out) HN.out (by have := HLen.out; have := lfN_length l; omega) (by decide) ?_; intro A1 c1 w1 hc1 hC1 hT1 _ hg1; (have HRow := Lib.hid hC1); (have HTy := Lib.hid hT1); (have HGr := Lib.hid hg1); (have HK1 := Lib.hid hc1); clear hC1 hT1 hg1 hc1)
  refine Q.ev_app (Q.Gr.of_grown HGr.out (Nat.le_refl _)) (Nat.le_refl _) (Q.NewRow.self _ _) ?_
  clear q8 hcut
  repeat (go_big_quiet_step (fail))
  refine wpQuiet_nil ?_
  refine NoPanic.normal ?_
  go_wp2_with fail
  have hrl : (lfN l ++ m).length = (lfN l).length + m.length := List.length_append
  have M0 := Lib.hid (show AD b (l.length + m.length) (stN begN l) (lfN l ++ m) A (lfN l).length c A1 c1 w w1 from
    ⟨(Hg1.out.keep (w1 := W.drew) rfl).grown HGr.out (by simp), stN_lt l begN_lt, by rw [hrl]; exact HK1.out, by rw [hrl, nat_app]; exact HRow.out, HTy.out, app_lt (drop_lt _ HL8.out) HM.out, HG1.out.trans ((grown_drew W _).trans ⟨HGr.out.os, HGr.out.tape, HGr.out.output, HGr.out.size, fun k hk _ => HGr.out.block k hk (by simp)⟩)⟩)
  have HS0 := Lib.hid (show stN (stN begN l) (lfN l ++ m) = stN begN (l ++ m) ∧ lfN (lfN l ++ m) = lfN (l ++ m) from ⟨(stN_app begN l m).symm, (lfN_app l m).symm⟩)
  have HRL := Lib.hid hrl
  clear HRow HTy HGr HK1 HG1 Hg1 HR1 HT1 HC1 HN hrl
  go_loopg [5] (l.length + m.length + 1) (fun g v5 w' => ∃ (s r : List Nat) (A1 : Option Addr) (c1 : Nat), v5 = .slice A1 r.length c1 ∧ Hid (r.length < 64 * g) ∧ Hid (AD b (l.length + m.length) s r A (lfN l).length c A1 c1 w w') ∧ Hid (stN s r = stN begN (l ++ m) ∧ lfN r = lfN (l ++ m)))
  case atStart => exact ⟨_, _, A1, c1, by rw [HRL.out], Lib.hid (by have := HRL.out; have := lfN_length l; omega), M0, HS0⟩
  case round =>
    obtain ⟨s, r, A1, c1, rfl, HJ, HA, HE⟩ := hrel
    clear M0 HS0
    cases gk with
    | zero => have := HJ.out; omega
    | succ k =>
      have hA := HA.out
      have hmx := (B_open hA.row).1
      by_cases h64 : 64 ≤ r.length
      · have t1 : decide ((64 : Int) ≤ (r.length : Int)) = true := decide_eq_true (by omega)
        have t2 : (64 : Int) ≤ (r.length : Int) := by omega
        obtain ⟨hct, hCt⟩ := cutT A1 r.length c1 64 64 rfl h64 hA.cap
        obtain ⟨A2, c2, hcf, hc2, hsub, hCf⟩ := cutFS A1 r.length c1 64 64 rfl h64 hA.cap
        have hld : ∀ n : Q.GW wr.drew wr.heap.size none, (Instr.loadAt 34 (.pointer (some ⟨b, 0, none⟩))).run Try.prog n.w = .ok (.agg (arr .u32 s)) n.w := fun n => ((hA.g.keep (w1 := wr.drew) rfl).below (Q.GW.below (W := wr.drew) n)).load
        have H64 := Lib.hid h64
        have HCt := Lib.hid hCt
        have HCf := Lib.hid hCf
        have Hc2 := Lib.hid hc2
        have HTy2 := Lib.hid (hA.ty.sub hsub)
        clear hA hCt hCf hc2 h64 hsub
        go_wp2_with fail
        refine Q.wp_region_segsF none [([0, 1, 2, 3, 4, 5, 6], some 7)] [8, 9] 10 (by kernel_rfl) (by kernel_rfl) (by kernel_rfl) (by kernel_rfl) ?_
        dsimp only [Q.wpSegsF, Q.picks, Q.pick]
        repeat (go_big_quiet_step (fail))
        refine quiet_load 34 (.tmp 47) (.pointer (some ⟨b, 0, none⟩)) (.agg (arr .u32 s)) rfl rfl rfl (by rintro w' ⟨n, rfl⟩; exact hld n) ?_
        go_simp
        repeat (go_big_quiet_step (fail))
        refine wpQuiet_nil ?_
        have hA := HA.out
        have ht64 : (r.take 64).length = 64 := by rw [List.length_take]; have := H64.out; omega
        have hq := mix_any s (r.take 64) A1 c1 wr.drew hA.g.len hA.sl ht64 (take_lt _ hA.lt8) (by rw [ht64]; exact Kd.C_drew (HCt.out _ _ hA.row)) (by rw [ht64]; have := hA.cap; have := H64.out; omega)
        rw [ht64] at hq
        have HQ := Lib.hid hq
        clear hq ht64 hA
        go_wp2_with (go_at_call 41; refine HQ.out.mono ?_; rintro e w2 ⟨rfl, hb2⟩; (have HB2 := Lib.hid hb2); clear hb2)
        refine Q.ev_keep HB2.out (Nat.le_refl _) ?_
        clear hld HQ
        repeat (go_big_quiet_step (fail))
        refine wpQuiet_nil ?_
        have hA := HA.out
        have hg2 := (hA.g.keep (w1 := wr.drew) rfl).below HB2.out
        have hml := mixN_length (b := r.take 64) hA.g.len
        have Hg3 := Lib.hid (hg2.st (s' := mixN s (r.take 64)) hml)
        have HGr3 := Lib.hid (((grown_drew wr (some b)).trans (grown_below HB2.out (some b))).trans (setCells_grown b (arr .u32 (mixN s (r.take 64))).toList 0 w2))
        have HML := Lib.hid hml
        have hth := hg2.there
        clear hA hg2 hml
        refine wpList_store_mid rfl 34 (.tmp 53) (.tmp 51) rfl b 0 (arr .u32 (mixN s (r.take 64))) rfl rfl (by rw [arr_size, HML.out]; exact hth) (by rw [arr_size, HML.out]; exact info_a8) (arr_one _ _) ?_
        clear hth
        refine NoPanic.normal ?_
        go_wp2_with fail
        go_roundg k
        case measure => have := HJ.out; have := H64.out; omega
        case rel => exact ⟨mixN s (r.take 64), r.drop 64, A2, c2, by rw [List.length_drop], Lib.hid (by rw [List.length_drop]; have := HJ.out; have := H64.out; omega), Lib.hid (by
          have hA := HA.out
          have hdl : (r.drop 64).length = r.length - 64 := by rw [List.length_drop]
          exact ⟨Hg3.out, mixN_lt, by rw [hdl]; exact Hc2.out, by rw [hdl]; exact C_ty (HCf.out _ _ hA.row) (HTy2.out) hA.g.blk (by decide) HGr3.out, HTy2.out.move (grown_keep HGr3.out HTy2.out hA.g.blk (by decide)), drop_lt _ hA.lt8, hA.gr.trans HGr3.out⟩), Lib.hid ⟨(stN_step H64.out).symm.trans HE.out.1, (lfN_step H64.out).symm.trans HE.out.2⟩⟩
      · have hlt : r.length < 64 := by omega
        have t1 : decide ((64 : Int) ≤ (r.length : Int)) = false := decide_eq_false (by omega)
        have t2 : (r.length : Int) < 64 := by omega
        have hE := HE.out
        rw [stN_small hlt, lfN_small hlt] at hE
        have HE2 := Lib.hid hE
        have HLt := Lib.hid hlt
        have f8 := hA.g.fz 8
        clear hE hlt HE h64
        have HAA := Lib.hid hA
        clear hA HA
        go_wp2_with (at_builtin; refine appn (w0 := wr) .u8 wr.heap.size (.tmp 57) (.tmp 58) 22 5 1 rfl rfl Try.underlying22 info_u8 (by decide) _ [] (nat r) _ _ _ rfl rfl (R_empty (Nat.le_refl _) _ rfl) (Kd.C_alloc HAA.out.row _) ((Below.refl _ _).alloc (Nat.le_refl _) _) (by simp) (by have := HLt.out; simp; omega) ?_; intro v1 w2 ho2 hb2 _; obtain ⟨A2, c2, rfl, hc2, hC2⟩ := Kd.R_reads ho2; rw [List.nil_append, nat_length] at hc2 hC2; rw [List.nil_append, nat_length] at ho2 ⊢; (have HT2 := Lib.hid (Ty_R ho2)); (have k8 := (HAA.out.g.below hb2).c8); (have f8' := (HAA.out.g.below hb2).fz 8); (have HC2 := Lib.hid hC2); (have Hc2 := Lib.hid hc2); (have HB2 := Lib.hid hb2); clear ho2 hb2 hC2 hc2)
        go_ret
        obtain ⟨e1, e2⟩ := HE2.out
        have hg := (HAA.out.g.below HB2.out).s8 (.slice A2 r.length c2)
        have hgr := (grown_below HB2.out (some b)).trans (grown_set w2 b 8 (.slice A2 r.length c2))
        have hty := HT2.out.move (grown_keep (grown_set w2 b 8 (.slice A2 r.length c2)) HT2.out (HAA.out.g.below HB2.out).blk (by decide))
        have hrow := C_ty HC2.out HT2.out (HAA.out.g.below HB2.out).blk (by decide) (grown_set w2 b 8 (.slice A2 r.length c2))
        have hcap := Hc2.out
        rw [e1] at hg
        rw [← List.length_append] at hg
        subst e2
        exact ⟨rfl, ⟨A2, c2, hg, hcap, hrow, hty, app_lt HL8.out HM.out⟩, HAA.out.gr.trans hgr⟩
end Go.Proofs.Ytagfplcafeblbaa.H
