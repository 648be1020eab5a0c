/-
  Parts of one proof, joined: sha: Of. | Bytes: slices.Grow and slices.Concat; rows that are made. | mac: marks in plain Lean; pad, Mark. | mac: Mark. | mac: Equal, Right. | mac: Derive; what must come of fixed calls. | seal: a sealer in memory; made, Next, number. | seal: New. | As Qs, but what the events may write is told by a predicate on worlds that one chooses oneself. | seal: Seal. | seal: Open of what is too short, or marked wrongly. | seal: Open of what a sealer of the same secret sealed. | seal: a datagram's parts; Open of a datagram.
-/
import Derived.Test.YtblnclooobggnaaZB0
import Derived.Test.YtblnclooobggnaaZB1
import Derived.Test.YtblnclooobggnaaZB2
import Derived.Test.YtblnclooobggnaaZB3
import Derived.Lib.AppendZerosOnto
import Derived.Deep.OwnRows
import Derived.Laws.OwnMore
import Derived.Deep.DeepCutAuto
import Derived.Deep.CutRange
import Derived.Lib.ConvBytes

namespace Go.Proofs.Ytblnclooobggnaa.H
open Go.RowKit Go.Proofs.Ytblnclooobggnaa.L Go.Proofs.Ytblnclooobggnaa.N Go.Proofs.YtblnclooobggnaaW.PrintWords

set_option maxRecDepth 100000 in
set_option maxHeartbeats 1600000 in
theorem of_any (L : List (List Nat)) (A : Option Addr) (c : Nat) (w : World) (h : RB w A L) (hL : L.length ≤ 70368744177664) (hlen : L.flatten.length ≤ 1152921504606846976) (hx : ∀ x ∈ L, x.length ≤ 70368744177664) :
    Calls Try.prog 64 #[.slice A L.length c] w fun e w' => e = .returned (.agg (arr .u8 (shaN L.flatten))) ∧ Below w.heap.size w w' := by
  have HR := Lib.hid h
  have HL := Lib.hid hL
  have HLen := Lib.hid hlen
  have HXl := Lib.hid hx
  have z1 : (L.length : Int) ≤ 70368744177664 := by omega
  clear h hL hlen hx
  go_enter Try.func64, Try.ntmps64
  go_wp2_with fail
  refine calls_at fun W hW => ?_
  have h2 : AB .u8 tSum w.heap.size z32 W := hW ▸ AB.mk w .u8 tSum z32
  have hb : Below w.heap.size w W := hW ▸ (Below.refl _ _).alloc (Nat.le_refl _) _
  have hsz : W.heap.size = w.heap.size + 1 := by rw [hW]; simp
  clear hW
  refine (new_any W).mono ?_
  rintro e W1 ⟨b, rfl, hbW, hsh, hb1⟩
  have H2 := Lib.hid (h2.below (by omega) hb1)
  have HB1 := Lib.hid (hb.trans (hb1.mono hb.size))
  have HSh := Lib.hid hsh
  have HLt := Lib.hid (show w.heap.size < b ∧ b < W1.heap.size from ⟨by omega, hsh.lt⟩)
  clear h2 hb hsz hbW hsh hb1
  go_wp2_with fail
  go_loopg [11] (L.length + 1) (fun g v11 w' => ∃ i : Nat, v11 = .int .i64 i ∧ Hid (i ≤ L.length ∧ L.length < g + i) ∧ Hid (SH b (L.take i).flatten w') ∧ Hid (W1.grownBy w' (some b)))
  case atStart => exact ⟨0, rfl, Lib.hid ⟨by omega, by omega⟩, HSh, Lib.hid (World.grownBy.refl _ _)⟩
  case round =>
    obtain ⟨i, rfl, HJ, HS, HG⟩ := hrel
    cases gk with
    | zero => have := HJ.out; omega
    | succ k =>
      by_cases hlt : i < L.length
      · have HJ' := Lib.hid (show i < L.length ∧ L.length < (k + 1) + i from ⟨hlt, HJ.out.2⟩)
        have hbl := below_grown HB1.out (HB1.out.size) HG.out (Nat.le_of_lt HLt.out.1)
        obtain ⟨bp, off, Aj, cj, rfl, hbp, hc, hC, h8, _⟩ := (HR.out.below hbl) i hlt
        have hft := flatten_take hlt
        have hle := flatten_take_le L (i + 1)
        rw [hft] at hle
        rw [List.length_append] at hle
        have hq := add_any b (L.take i).flatten (L.getD i []) Aj cj wr HS.out hC h8 (by have := HLen.out; omega) (getD_le HXl.out)
        rw [← hft] at hq
        have HQ := Lib.hid hq
        have z2 : (0 : Int) ≤ (i : Int) := by omega
        have z3 : (i : Int) < (L.length : Int) := by omega
        clear hft hle hq hC h8 hbl hlt HJ
        generalize L.getD i [] = x at hc HQ
        go_wp2_with fail
        refine HQ.out.mono ?_
        rintro e w2 ⟨rfl, hs2, hg2⟩
        have HS2 := Lib.hid hs2
        have HG2 := Lib.hid (HG.out.trans hg2)
        clear hs2 hg2 HQ
        go_wp2_with fail
        go_roundg k
        case measure => have := HJ'.out; omega
        case rel => exact ⟨i + 1, by go_num, Lib.hid (by have := HJ'.out; omega), HS2, HG2⟩
      · have hi : i = L.length := by have := HJ.out; omega
        subst hi
        have hs := HS.out
        rw [List.take_length] at hs
        have hbl := below_grown HB1.out (HB1.out.size) HG.out (Nat.le_of_lt HLt.out.1)
        have h2 := H2.out.grown HG.out (by intro e; injection e with e; have := HLt.out; omega)
        have HQ := Lib.hid (sum_any b L.flatten wr hs HLen.out)
        have HBl := Lib.hid hbl
        have HA2 := Lib.hid h2
        clear hs hbl h2 HS HG H2 HJ hlt
        obtain ⟨R, hR⟩ : ∃ R, shaN L.flatten = R := ⟨_, rfl⟩
        have hRl := shaN_length L.flatten
        rw [hR] at HQ hRl
        have HRR := Lib.hid hR
        have HRl := Lib.hid hRl
        clear hR hRl
        go_wp2_with fail
        refine HQ.out.mono ?_
        rintro e w3 ⟨rfl, hb3⟩
        have HB3 := Lib.hid (HBl.out.trans (hb3.mono HBl.out.size))
        have HA3 := Lib.hid (HA2.out.below HA2.out.lt hb3)
        clear hb3 HQ HBl HA2
        go_wp2_with (first
          | (refine store_ab .u8 w3.heap.size z32 R rfl rfl rfl rfl rfl (AB.mk w3 .u8 tSum z32) (by rw [HRl.out]; exact info_sum) (by rw [HRl.out]; rfl) ?_; intro W9 h9 hg9; (have R9 := Lib.hid h9); (have RG9 := Lib.hid hg9); clear h9 hg9)
          | (refine load_ab .u8 w3.heap.size R rfl rfl rfl R9.out Try.underlying107 (by rw [HRl.out]; exact info_sum) ?_)
          | (refine store_ab .u8 w.heap.size z32 R rfl rfl rfl rfl rfl ((HA3.out.below HA3.out.lt ((Below.refl _ _).alloc (Nat.le_refl _) (.cells (arr .u8 z32) tSum))).grown RG9.out (by intro e; injection e with e; have := HA3.out.lt; omega)) (by rw [HRl.out]; exact info_sum) (by rw [HRl.out]; rfl) ?_; intro W10 h10 hg10; (have R10 := Lib.hid h10); (have RG10 := Lib.hid hg10); clear h10 hg10))
        have hl := R10.out.load (P := Try.prog) Try.underlying107 (by rw [HRl.out]; exact info_sum)
        have hb9 := below_grown (HB3.out.alloc HB3.out.size (.cells (arr .u8 z32) tSum)) (by have := HB3.out.size; simp; omega) RG9.out HB3.out.size
        have hb10 := below_grown hb9 hb9.size RG10.out (Nat.le_refl _)
        exact bodyPost_ret (v := .agg (arr .u8 R)) (by simp [results, Try.results64, hl, Act.put, asAddr]) rfl ⟨by rw [HRR.out], hb10⟩
end Go.Proofs.Ytblnclooobggnaa.H

namespace Go.Proofs.Ytblnclooobggnaa.N
open Go.RowKit Go.Proofs.Ytblnclooobggnaa.L Go.Proofs.YtblnclooobggnaaW.PrintWords

/-- a block that is known whole, as a row of one's own -/
theorem AB.own {t : TypeId} {b B : Nat} {l : List Nat} {w : World} (h : AB .u8 t b l w) (hB : B ≤ b) (hl : l.length ≤ maxLen) : (Kd.int .u8).R t w B (fun _ => True) (.slice (some ⟨b, 0, none⟩) l.length l.length) (nat l) := by
  have := R_of_blk (w := w) (b := b) (B := B) (k := .u8) (e := t) (l := nat l) (by
    rw [show (List.map (Value.int .u8) (nat l)).toArray = arr .u8 l from by simp [arr, nat]]
    exact h) hB (by rw [nat_length]; exact hl)
  rwa [nat_length] at this
/-- the same, read -/
theorem AB.row {t : TypeId} {b : Nat} {l : List Nat} {w : World} (h : AB .u8 t b l w) (hl : l.length ≤ maxLen) : (Kd.int .u8).C w (some ⟨b, 0, none⟩) l.length (nat l) := by
  have := (Kd.R_reads' (h.own (Nat.zero_le _) hl)).2.2
  rwa [nat_length] at this
/-- what a copy reads -/
theorem row_src {k : IntKind} {w : World} {A : Option Addr} {l : List Nat} (h : (Kd.int k).C w A l.length (nat l)) (h0 : 0 < l.length) : ∃ ad, A = some ad ∧ ∀ j, j < l.length → w.cell? (ad.add j) = some (.int k (l.getD j 0 : Nat)) := by
  obtain ⟨b, off, e, _, hc⟩ := B_at h h0
  exact ⟨⟨b, off, none⟩, e, fun j hj => by rw [add_at]; exact hc j hj⟩
/-- a row of rows is a row of slices -/
theorem RB_to_S {w : World} {A : Option Addr} {L : List (List Nat)} (h : RB w A L) (hL : L.length ≤ 9223372036854775807) : ∃ ps, ps.length = L.length ∧ kSl.C w A L.length ps ∧ PS w ps L := by
  have key : ∀ j : Nat, ∃ p : Option Addr × Nat × Nat, j < L.length → (p.2.1 = (L.getD j []).length ∧ (Kd.int .u8).C w p.1 (L.getD j []).length (nat (L.getD j [])) ∧ (∀ x ∈ L.getD j [], x < 256) ∧ (L.getD j []).length ≤ p.2.2) ∧ ∃ b off, A = some ⟨b, off, none⟩ ∧ w.cell? ⟨b, off + j, none⟩ = some (.slice p.1 p.2.1 p.2.2) := fun j => by
    by_cases hj : j < L.length
    · obtain ⟨b, off, Aj, cj, e, _, hc, hC, h8, hcap⟩ := h j hj
      exact ⟨(Aj, (L.getD j []).length, cj), fun _ => ⟨⟨rfl, hC, h8, hcap⟩, b, off, e, hc⟩⟩
    · exact ⟨(none, 0, 0), fun hh => absurd hh hj⟩
  obtain ⟨f, hf⟩ := Classical.axiomOfChoice key
  have hlen : ((List.range L.length).map f).length = L.length := by simp
  have hget : ∀ j, j < L.length → ((List.range L.length).map f).getD j (none, 0, 0) = f j := fun j hj => by
    rw [List.getD_eq_getElem?_getD, List.getElem?_map, List.getElem?_range hj]
    rfl
  refine ⟨(List.range L.length).map f, hlen, ?_, hlen, fun j hj => ?_⟩
  · refine ⟨hlen, hL, fun h0 => ?_⟩
    obtain ⟨_, b, off, e, _⟩ := hf 0 h0
    refine ⟨⟨b, off, none⟩, e, fun j p hp => ?_⟩
    have hj : j < L.length := by have := (List.getElem?_eq_some_iff.1 hp).1; omega
    have hpe : p = f j := by
      have := hget j hj
      rw [List.getD_eq_getElem?_getD, hp] at this
      exact this
    subst hpe
    obtain ⟨_, b', off', e', hc⟩ := hf j hj
    rw [e] at e'
    injection e' with e'
    injection e' with e1 e2
    subst e1
    subst e2
    refine ⟨[.slice (f j).1 (f j).2.1 (f j).2.2], rfl, rfl, fun i u hu => ?_⟩
    have hi : i = 0 := by have := (List.getElem?_eq_some_iff.1 hu).1; simpa using this
    subst hi
    rw [add_at, show kSl.sz = 1 from rfl, Nat.mul_one, Nat.add_zero, hc]
    exact hu
  · rw [hget j hj]
    exact (hf j hj).1
theorem PS.app {w : World} {ps qs : List (Option Addr × Nat × Nat)} {L M : List (List Nat)} (h : PS w ps L) (h2 : PS w qs M) : PS w (ps ++ qs) (L ++ M) := by
  refine ⟨by simp [h.1, h2.1], fun j hj => ?_⟩
  by_cases hl : j < L.length
  · have e1 : (ps ++ qs).getD j (none, 0, 0) = ps.getD j (none, 0, 0) := by rw [List.getD_eq_getElem?_getD, List.getElem?_append_left (by rw [h.1]; exact hl), ← List.getD_eq_getElem?_getD]
    have e2 : (L ++ M).getD j [] = L.getD j [] := by rw [List.getD_eq_getElem?_getD, List.getElem?_append_left hl, ← List.getD_eq_getElem?_getD]
    rw [e1, e2]
    exact h.2 j hl
  · have hj' : j - L.length < M.length := by rw [List.length_append] at hj; omega
    have e1 : (ps ++ qs).getD j (none, 0, 0) = qs.getD (j - L.length) (none, 0, 0) := by rw [List.getD_eq_getElem?_getD, List.getElem?_append_right (by rw [h.1]; omega), h.1, ← List.getD_eq_getElem?_getD]
    have e2 : (L ++ M).getD j [] = M.getD (j - L.length) [] := by rw [List.getD_eq_getElem?_getD, List.getElem?_append_right (by omega), ← List.getD_eq_getElem?_getD]
    rw [e1, e2]
    exact h2.2 _ hj'
theorem PS.one {w : World} {A : Option Addr} {c n : Nat} {l : List Nat} (hn : l.length = n) (hC : (Kd.int .u8).C w A n (nat l)) (h8 : ∀ x ∈ l, x < 256) (hc : n ≤ c) : PS w [(A, n, c)] [l] := by
  subst hn
  exact (PS.nil w).snoc hC h8 hc
/-- a literal of one slice -/
theorem kSl_lit {w : World} {g B : Nat} {A : Option Addr} {n c : Nat} (h : w.heap[g]? = some (.cells #[.slice A n c] 41 (0, 0))) (hB : B ≤ g) : kSl.R 41 w B (fun _ => True) (.slice (some ⟨g, 0, none⟩) 1 1) [(A, n, c)] :=
  Kd.R_of_own (enc := fun p : Option Addr × Nat × Nat => Value.slice p.1 p.2.1 p.2.2) ⟨by simp [encs], .inr ⟨g, 1, _, rfl, hB, h, Nat.le_refl _, by decide, by simp, by simp [encs]⟩⟩ (fun _ _ => trivial)
theorem or_zero {v x y : Nat} : v ||| (x ^^^ y) = 0 ↔ v = 0 ∧ x = y := by
  constructor
  · intro h
    have h1 : v ≤ 0 := h ▸ Nat.left_le_or
    have h2 : x ^^^ y ≤ 0 := h ▸ Nat.right_le_or
    have h3 : x ^^^ y = 0 := by omega
    refine ⟨by omega, ?_⟩
    have : x ^^^ y ^^^ y = 0 ^^^ y := by rw [h3]
    rwa [Nat.xor_assoc, Nat.xor_self, Nat.xor_zero, Nat.zero_xor] at this
  · rintro ⟨rfl, rfl⟩
    simp
theorem RB_lt {w : World} {A : Option Addr} {L : List (List Nat)} (h : RB w A L) : ∀ x ∈ L.flatten, x < 256 := by
  intro x hx
  obtain ⟨y, hy, hxy⟩ := List.mem_flatten.1 hx
  obtain ⟨j, hj, rfl⟩ := List.mem_iff_getElem.1 hy
  obtain ⟨_, _, _, _, _, _, _, _, h8, _⟩ := h j hj
  rw [List.getD_eq_getElem?_getD, List.getElem?_eq_getElem hj] at h8
  exact h8 x hxy
theorem made_arr (k : IntKind) (n : Nat) : madeCells #[.int k 0] n = arr k (List.replicate n 0) := by
  apply Array.ext'
  rw [toList_madeCells_one]
  simp [arr]
/-- make([]byte, n) -/
theorem make_b (n : Nat) (N : Int) (hN : N = (n : Int)) (hn : n ≤ 281474976710656) (w : World) : (Instr.makeSlice 41 (.int .i64 N) (.int .i64 N)).run Try.prog w = .ok (.slice (some ⟨w.heap.size, 0, none⟩) n n) (w.alloc (.cells (arr .u8 (List.replicate n 0)) 5)) := by
  subst hN
  rw [← made_arr]
  exact run_make_row' 41 5 (.int .u8 0) 1 Try.underlying41 info_u8 rfl .i64 .i64 n (by omega) (by omega) w
theorem splice_front {α : Type} (Z cs : List α) : splice Z 0 cs = cs ++ Z.drop cs.length := by simp [splice]
set_option maxHeartbeats 1600000 in
set_option maxRecDepth 100000 in
theorem grow_any (n : Nat) (w : World) (hn : n ≤ 1000000000000) :
    Calls Try.prog 79 #[.slice none 0 0, .int .i64 n] w fun e w' => ∃ v, e = .returned v ∧ (Kd.int .u8).R 5 w' w.heap.size (fun _ => True) v [] ∧ Below w.heap.size w w' := by
  rcases Nat.eq_zero_or_pos n with h0 | h0
  · subst h0
    go_enter Try.func79, Try.ntmps79
    go_wp2
    go_ret
    exact ⟨_, rfl, Kd.R_nil _ _ _ _ _, Below.refl _ _⟩
  · obtain ⟨i0, hi0, hz⟩ := Option.map_eq_some_iff.1 info_u8
    simp only [Prod.mk.injEq] at hz
    obtain ⟨hz0, hz1, hz2⟩ := hz
    have hfit : Builtin.nextslicecap (0 + n) 0 * i0.bytes ≤ 281474976710656 := by
      rw [hz2]
      simp only [Builtin.nextslicecap]
      rw [if_pos (by omega)]
      omega
    have hrz := fun ty => Lib.run_append_grow_zeros (P := Try.prog) w 41 3 ty 5 i0 _ .i64 .i64 Try.underlying41 Try.underlying3 hi0 hz0 none 0 0 [] (by exact run_firstCells_none w.drew i0.size 0 0 0) n h0 (by omega) (by omega) (by omega) (by rw [hz2]; omega) hfit
    have hge := grownCap_ge w (0 + n) 0 5
    have hle := grownCap_le_maxLen w (0 + n) 0 5 (by unfold maxLen; omega)
    generalize grownCap w (0 + n) 0 5 = G at *
    have hG63 : G ≤ 9223372036854775807 := by unfold maxLen at hle; exact hle
    have t1 : decide ((n : Int) < 0) = false := decide_eq_false (by omega)
    have t2 : decide ((0 : Int) < (n : Int)) = true := decide_eq_true (by omega)
    have HE := Lib.hid hge
    have HL := Lib.hid hle
    simp only [Nat.zero_add] at hrz
    clear hge hle hfit hz0 hz1 hz2 hi0
    go_enter Try.func79, Try.ntmps79
    go_wp2_with (at_builtin; refine Lib.wpList_append_run _ rfl _ _ _ _ rfl _ _ rfl rfl _ _ (hrz _) ?_)
    go_ret
    refine ⟨_, rfl, ⟨fun _ _ => trivial, [], ⟨by simp, .inr ⟨w.heap.size, G, _, rfl, Nat.le_refl _, heap_alloc_new w.drew _, Nat.zero_le _, HL.out, ?_, by simp⟩⟩, Reps.none _ _⟩, ((Below.refl _ _).drew).alloc (Nat.le_refl _) _⟩
    have := HE.out
    show _ = G * 1
    simp [Builtin.zeroCells]
    omega
set_option maxHeartbeats 3200000 in
set_option maxRecDepth 100000 in
/-- slices.Concat of rows of bytes -/
theorem concat_any (L : List (List Nat)) (A : Option Addr) (c : Nat) (w : World) (h : RB w A L) (hL : L.length ≤ 1000000000) (hlen : L.flatten.length ≤ 1000000000000) :
    Calls Try.prog 65 #[.slice A L.length c] w fun e w' => ∃ v, e = .returned v ∧ (Kd.int .u8).R 5 w' w.heap.size (fun _ => True) v (nat L.flatten) ∧ Below w.heap.size w w' := by
  have HR := Lib.hid h
  have HLen := Lib.hid hlen
  have z1 : (L.length : Int) ≤ 1000000000 := by omega
  clear h hlen
  go_enter Try.func65, Try.ntmps65
  go_wp2_with fail
  go_loopg [3, 11] (L.length + 1) (fun g v3 v11 w' => ∃ i n : Nat, v11 = .int .i64 i ∧ v3 = .int .i64 n ∧ Hid (i ≤ L.length ∧ L.length < g + i) ∧ Hid (n = (L.take i).flatten.length) ∧ Hid (w = w'))
  case atStart => exact ⟨0, 0, rfl, rfl, Lib.hid ⟨by omega, by omega⟩, Lib.hid rfl, Lib.hid rfl⟩
  case round =>
    obtain ⟨i, n, rfl, rfl, HJ, HN, HW⟩ := hrel
    obtain rfl := HW.out
    clear HW
    cases gk with
    | zero => have := HJ.out; omega
    | succ k =>
      by_cases hlt : i < L.length
      · have HJ' := Lib.hid (show i < L.length ∧ L.length < (k + 1) + i from ⟨hlt, HJ.out.2⟩)
        obtain ⟨bp, off, Aj, cj, rfl, hbp, hc, hC, h8, _⟩ := HR.out i hlt
        have hft := flatten_take hlt
        have hle := flatten_take_le L (i + 1)
        have hn := congrArg List.length hft
        rw [List.length_append, ← HN.out] at hn
        obtain ⟨x, hx⟩ : ∃ x, L.getD i [] = x := ⟨_, rfl⟩
        rw [hx] at hc hn
        have z2 : (0 : Int) ≤ (i : Int) := by omega
        have z3 : (i : Int) < (L.length : Int) := by omega
        have z4 : (n : Int) + (x.length : Int) ≤ 1000000000000 := by have := HLen.out; omega
        have z5 : decide ((n : Int) + (x.length : Int) < 0) = false := decide_eq_false (by omega)
        have HNn := Lib.hid hn
        clear hft hle hn hx hC h8 hlt HJ
        go_wp2_with fail
        go_roundg k
        case measure => have := HJ'.out; omega
        case rel => exact ⟨i + 1, n + x.length, by go_num, by go_num, Lib.hid (by have := HJ'.out; omega), Lib.hid HNn.out.symm, Lib.hid rfl⟩
      · have hi : i = L.length := by have := HJ.out; omega
        subst hi
        have hn := HN.out
        rw [List.take_length] at hn
        have HQ := Lib.hid (grow_any n w (by rw [hn]; exact HLen.out))
        clear hn hlt HJ HN
        go_wp2_with fail
        refine HQ.out.mono ?_
        rintro e w1 ⟨v1, rfl, hr1, hb1⟩
        have HR1 := Lib.hid hr1
        have HB1 := Lib.hid hb1
        clear hr1 hb1 HQ
        go_wp2_with fail
        go_loopg [6, 27] (L.length + 1) (fun g v6 v27 w' => ∃ i : Nat, v27 = .int .i64 i ∧ Hid (i ≤ L.length ∧ L.length < g + i) ∧ Hid ((Kd.int .u8).R 5 w' w.heap.size (fun _ => True) v6 (nat (L.take i).flatten)) ∧ Hid (Below w.heap.size w w'))
        case atStart => exact ⟨0, rfl, Lib.hid ⟨by omega, by omega⟩, HR1, HB1⟩
        case round =>
          obtain ⟨i, rfl, HJ, HR2, HB⟩ := hrel
          clear HR1 HB1
          cases gk with
          | zero => have := HJ.out; omega
          | succ k2 =>
            by_cases hlt : i < L.length
            · have HJ' := Lib.hid (show i < L.length ∧ L.length < (k2 + 1) + i from ⟨hlt, HJ.out.2⟩)
              obtain ⟨bp, off, Aj, cj, rfl, hbp, hc, hC, h8, _⟩ := HR.out i hlt
              have hc1 := (HB.out.cell (p := ⟨bp, off + i, none⟩) hbp).trans hc
              have hft := flatten_take hlt
              have hle := flatten_take_le L (i + 1)
              have hn := congrArg List.length hft
              rw [List.length_append] at hn
              have HC1 := Lib.hid (Kd.C_below hC HB.out)
              have hsz : ((nat (L.take i).flatten).length + (L.getD i []).length) * 1 ≤ 140737488355328 := by rw [nat_length]; have := HLen.out; omega
              have HSz := Lib.hid hsz
              have HFt := Lib.hid hft
              have z2 : (0 : Int) ≤ (i : Int) := by omega
              have z3 : (i : Int) < (L.length : Int) := by omega
              clear hft hle hn hC h8 hlt HJ hc hbp hsz
              generalize L.getD i [] = x at hc1 HC1 HSz HFt
              go_wp2_with (at_builtin; refine appn (w0 := w) .u8 w.heap.size (.tmp 31) (.tmp 32) 41 5 1 rfl rfl Try.underlying41 info_u8 (by decide) _ (nat (L.take i).flatten) (nat x) Aj x.length cj rfl rfl HR2.out HC1.out HB.out HB.out.size HSz.out ?_; intro v4 w4 hr4 hb4 _; (have HR4 := Lib.hid hr4); (have HB4 := Lib.hid hb4); clear hr4 hb4)
              go_roundg k2
              case measure => have := HJ'.out; omega
              case rel => exact ⟨i + 1, by go_num, Lib.hid (by have := HJ'.out; omega), Lib.hid (by rw [HFt.out, nat_app]; exact HR4.out), HB4⟩
            · have hi : i = L.length := by have := HJ.out; omega
              subst hi
              have hr := HR2.out
              rw [List.take_length] at hr
              have HRr := Lib.hid hr
              clear hr
              go_wp2_with fail
              go_ret
              exact ⟨_, rfl, HRr.out, HB.out⟩
end Go.Proofs.Ytblnclooobggnaa.N

namespace Go.Proofs.Ytblnclooobggnaa.Mc
open Go.RowKit Go.Proofs.Ytblnclooobggnaa.L Go.Proofs.Ytblnclooobggnaa.N Go.Proofs.Ytblnclooobggnaa.H Go.Proofs.YtblnclooobggnaaW.PrintWords

/-- a key, or its sum -/
def kkN (key : List Nat) : List Nat := if 64 < key.length then shaN key else key
theorem kkN_len (key : List Nat) : (kkN key).length ≤ 64 := by
  unfold kkN
  split
  · rw [shaN_length]; decide
  · omega
theorem kkN_lt {key : List Nat} (h : ∀ x ∈ key, x < 256) : ∀ x ∈ kkN key, x < 256 := by
  unfold kkN
  split
  · exact shaN_lt _
  · exact h
def bsN (key : List Nat) : List Nat := kkN key ++ List.replicate (64 - (kkN key).length) 0
theorem bsN_len (key : List Nat) : (bsN key).length = 64 := by
  have := kkN_len key
  simp [bsN]
  omega
theorem bsN_lt {key : List Nat} (h : ∀ x ∈ key, x < 256) : ∀ x ∈ bsN key, x < 256 := app_lt (kkN_lt h) (fun x hx => by rw [List.eq_of_mem_replicate hx]; decide)
def pdN (key : List Nat) (by' : Nat) : List Nat := (bsN key).map (· ^^^ by')
theorem pdN_len (key : List Nat) (b : Nat) : (pdN key b).length = 64 := by rw [pdN, List.length_map, bsN_len]
theorem pdN_lt {key : List Nat} {b : Nat} (h : ∀ x ∈ key, x < 256) (hb : b < 256) : ∀ x ∈ pdN key b, x < 256 := by
  intro x hx
  obtain ⟨y, hy, rfl⟩ := List.mem_map.1 hx
  exact xor_lt8 (bsN_lt h y hy) hb
theorem pdN_get (key : List Nat) (b : Nat) {i : Nat} (h : i < 64) : (pdN key b).getD i 0 = (bsN key).getD i 0 ^^^ b := by
  rw [pdN, List.getD_eq_getElem?_getD, List.getElem?_map, List.getD_eq_getElem?_getD, List.getElem?_eq_getElem (by rw [bsN_len]; exact h)]
  rfl
/-- a mark -/
def markN (key b : List Nat) : List Nat := shaN (pdN key 92 ++ shaN (pdN key 54 ++ b))
theorem markN_len (key b : List Nat) : (markN key b).length = 32 := shaN_length _
theorem markN_lt (key b : List Nat) : ∀ x ∈ markN key b, x < 256 := shaN_lt _

theorem info_u8s : (Try.prog.info? 5).map (·.size) = some 1 := by kernel_rfl
def z64 : List Nat := List.replicate 64 0
set_option maxRecDepth 100000 in
set_option maxHeartbeats 1600000 in
theorem pad_any (key : List Nat) (A : Option Addr) (c by' : Nat) (w : World) (hC : (Kd.int .u8).C w A key.length (nat key)) (hc : key.length ≤ c) (hk : ∀ x ∈ key, x < 256) (hb : by' < 256) (hl : key.length ≤ 70368744177664) :
    Calls Try.prog 66 #[.slice A key.length c, .int .u8 (by' : Int)] w fun e w' => ∃ b cc, e = .returned (.slice (some ⟨b, 0, none⟩) 64 cc) ∧ w.heap.size ≤ b ∧ AB .u8 5 b (pdN key by') w' ∧ 64 ≤ cc ∧ Below w.heap.size w w' := by
  have HC := Lib.hid hC
  have HCc := Lib.hid hc
  have HK := Lib.hid hk
  have HBy := Lib.hid hb
  by_cases h64 : 64 < key.length
  · have t1 : decide ((64 : Int) < (key.length : Int)) = true := decide_eq_true (by omega)
    have t2 : (64 : Int) < (key.length : Int) := by omega
    have HL := Lib.hid hl
    have HKK := Lib.hid (show kkN key = shaN key from by unfold kkN; rw [if_pos h64])
    clear hC hc hk hb hl h64
    go_enter Try.func66, Try.ntmps66
    go_wp2_with fail
    have hq := of_any [key] _ 1 _ (RB_one 41 HC.out HK.out HCc.out) (by simp) (by have := HL.out; simp; omega) (by have := HL.out; simp; omega)
    rw [show ([key] : List (List Nat)).flatten = key from by simp] at hq
    have HQ := Lib.hid hq
    clear hq
    obtain ⟨R, hR⟩ : ∃ R, shaN key = R := ⟨_, rfl⟩
    have hRl := shaN_length key
    rw [hR] at HQ HKK hRl
    have HRl := Lib.hid hRl
    clear hR hRl
    refine HQ.out.mono ?_
    rintro e w1 ⟨rfl, hb1⟩
    have HB1 := Lib.hid ((Below.refl w.heap.size w).alloc (Nat.le_refl _) (.cells #[.slice A key.length c] 41) |>.trans (hb1.mono (by rw [alloc_size]; omega)))
    clear hb1 HQ
    go_upto_region 4 with (refine store_ab .u8 w1.heap.size z32 R rfl rfl rfl rfl rfl (AB.mk w1 .u8 tSum z32) (by rw [HRl.out]; exact info_sum) (by rw [HRl.out]; rfl) ?_; intro W5 h5 hg5; (have H5 := Lib.hid h5); (have HG5 := Lib.hid hg5); clear h5 hg5)
    obtain ⟨hb5, _⟩ := below_new HG5.out
    have HB5 := Lib.hid (HB1.out.trans (hb5.mono HB1.out.size))
    have HR5 := Lib.hid (H5.out.row (by rw [HRl.out]; decide))
    clear hb5 HG5 HB1
    obtain ⟨kk, hkk⟩ : ∃ kk, kkN key = kk := ⟨_, rfl⟩
    have HKl := Lib.hid (show kk.length = 32 from by rw [← hkk, HKK.out, HRl.out])
    have HKm := Lib.hid (show 32 ≤ 64 from by decide)
    have HKr := Lib.hid (show (Kd.int .u8).C W5 (some ⟨w1.heap.size, 0, none⟩) kk.length (nat kk) from by rw [← hkk, HKK.out]; exact HR5.out)
    have HKe := Lib.hid hkk
    clear hkk
    have hmk := make_b 64 64 rfl (by decide)
    rw [show (List.replicate 64 0 : List Nat) = z64 from rfl] at hmk
    go_wp2_with (refine copy_ab rfl (.tmp 18) (.tmp 19) 41 41 rfl 5 Try.underlying41 info_u8s .u8 5 (some ⟨W5.heap.size, 0, none⟩) (some ⟨w1.heap.size, 0, none⟩) W5.heap.size 0 64 64 32 32 rfl rfl z64 (AB.mk W5 .u8 5 z64) kk (by rw [HKl.out]; exact (Nat.min_eq_left (by have := HKm.out; omega)).symm) (fun h0 => ⟨rfl, row_src (Kd.C_alloc HKr.out _) h0⟩) (by rw [Nat.zero_add, HKl.out]; exact HKm.out) ?_; intro W6 h6 hg6; (have H6 := Lib.hid h6); (have HG6 := Lib.hid hg6); clear h6 hg6)
    have hbs : splice z64 0 kk = bsN key := by
      rw [splice_front, bsN, HKe.out, z64, List.drop_replicate]
    obtain ⟨hb6, hs6⟩ := below_new HG6.out
    have HBW := Lib.hid (show w.heap.size ≤ W5.heap.size from HB5.out.size)
    have HBl := Lib.hid (HB5.out.trans (hb6.mono HB5.out.size))
    have hH6 := H6.out
    rw [hbs] at hH6
    have M0 := Lib.hid hH6
    have HBs := Lib.hid (bsN_len key)
    have HPl := Lib.hid (pdN_len key by')
    have HBt := Lib.hid (bsN_lt HK.out)
    have HS6 := Lib.hid hs6
    clear hbs hb6 hs6 hH6 H6 HG6 hmk HB5
    generalize W5.heap.size = b7 at *
    go_loopg [23] 65 (fun g v23 w' => ∃ i : Nat, v23 = .int .i64 i ∧ Hid (i ≤ 64 ∧ 64 < g + i) ∧ Hid (AB .u8 5 b7 (fld (pdN key by') (bsN key) i) w') ∧ Hid (Below w.heap.size w w'))
    case atStart => exact ⟨0, rfl, Lib.hid ⟨by omega, by omega⟩, by rw [fld_zero]; exact M0, HBl⟩
    case round =>
      obtain ⟨i, rfl, HJ, HA, HB⟩ := hrel
      clear M0 HBl
      cases gk with
      | zero => have := HJ.out; omega
      | succ k =>
        by_cases hlt : i < 64
        · have HJ' := Lib.hid (show i < 64 ∧ 64 < (k + 1) + i from ⟨hlt, HJ.out.2⟩)
          have hlen : i < (fld (pdN key by') (bsN key) i).length := by rw [fld_length (by rw [HPl.out, HBs.out]) (by rw [HPl.out]; omega), HBs.out]; exact hlt
          have c1 := HA.out.cell (i := i) hlen
          rw [fld_get (by rw [HPl.out, HBs.out]) (by rw [HPl.out]; exact hlt)] at c1
          have hst := fld_step (new := pdN key by') (old := bsN key) (by rw [HPl.out, HBs.out]) (i := i) (by rw [HPl.out]; exact hlt)
          rw [pdN_get key by' hlt] at hst
          have hx := getD_lt0 (l := bsN key) (m := 256) (by decide) i HBt.out
          obtain ⟨x, hxe⟩ : ∃ x, (bsN key).getD i 0 = x := ⟨_, rfl⟩
          rw [hxe] at c1 hst hx
          have e1 := xor_u8 x by' hx HBy.out
          have fz := HA.out.fz i
          have z1 : (0 : Int) ≤ (i : Int) := by omega
          have z2 : (i : Int) < 64 := by omega
          have HSt := Lib.hid hst
          clear hlen hst hx hxe HJ hlt
          go_wp2_with fail
          go_roundg k
          case measure => have := HJ'.out; omega
          case rel => exact ⟨i + 1, by go_num, Lib.hid (by have := HJ'.out; omega), Lib.hid (by
            have h := HA.out.set i (x ^^^ by')
            rw [HSt.out] at h
            exact h), Lib.hid (below_grown HB.out HB.out.size (grown_set _ _ _ _) HBW.out)⟩
        · have hi : i = 64 := by have := HJ.out; omega
          subst hi
          have hA := HA.out
          rw [show fld (pdN key by') (bsN key) 64 = pdN key by' from by
            have := fld_all (new := pdN key by') (old := bsN key) (by rw [HPl.out, HBs.out])
            rwa [HPl.out] at this] at hA
          have HE := Lib.hid hA
          clear hA
          go_wp2_with fail
          go_ret
          exact ⟨b7, 64, rfl, HBW.out, HE.out, Nat.le_refl _, HB.out⟩
  · have t1 : decide ((64 : Int) < (key.length : Int)) = false := decide_eq_false (by omega)
    obtain ⟨kk, hkk⟩ : ∃ kk, kkN key = kk := ⟨_, rfl⟩
    have HKK := Lib.hid (show kkN key = key from by unfold kkN; rw [if_neg h64])
    have HKl := Lib.hid (show kk.length = key.length from by rw [← hkk, HKK.out])
    have HKm := Lib.hid (show key.length ≤ 64 from by omega)
    have HKr := Lib.hid (show (Kd.int .u8).C w A kk.length (nat kk) from by rw [← hkk, HKK.out]; exact hC)
    have HKe := Lib.hid hkk
    have HB5 := Lib.hid (Below.refl w.heap.size w)
    clear hkk hC hc hk hb hl h64
    go_enter Try.func66, Try.ntmps66
    have hmk := make_b 64 64 rfl (by decide)
    rw [show (List.replicate 64 0 : List Nat) = z64 from rfl] at hmk
    go_wp2_with (refine copy_ab rfl (.tmp 18) (.tmp 19) 41 41 rfl 5 Try.underlying41 info_u8s .u8 5 (some ⟨w.heap.size, 0, none⟩) A w.heap.size 0 64 64 key.length c rfl rfl z64 (AB.mk w .u8 5 z64) kk (by rw [HKl.out]; exact (Nat.min_eq_left (by have := HKm.out; omega)).symm) (fun h0 => ⟨rfl, row_src (Kd.C_alloc HKr.out _) h0⟩) (by rw [Nat.zero_add, HKl.out]; exact HKm.out) ?_; intro W6 h6 hg6; (have H6 := Lib.hid h6); (have HG6 := Lib.hid hg6); clear h6 hg6)
    have hbs : splice z64 0 kk = bsN key := by
      rw [splice_front, bsN, HKe.out, z64, List.drop_replicate]
    obtain ⟨hb6, hs6⟩ := below_new HG6.out
    have HBW := Lib.hid (show w.heap.size ≤ w.heap.size from HB5.out.size)
    have HBl := Lib.hid (HB5.out.trans (hb6.mono HB5.out.size))
    have hH6 := H6.out
    rw [hbs] at hH6
    have M0 := Lib.hid hH6
    have HBs := Lib.hid (bsN_len key)
    have HPl := Lib.hid (pdN_len key by')
    have HBt := Lib.hid (bsN_lt HK.out)
    have HS6 := Lib.hid hs6
    clear hbs hb6 hs6 hH6 H6 HG6 hmk HB5
    go_loopg [23] 65 (fun g v23 w' => ∃ i : Nat, v23 = .int .i64 i ∧ Hid (i ≤ 64 ∧ 64 < g + i) ∧ Hid (AB .u8 5 w.heap.size (fld (pdN key by') (bsN key) i) w') ∧ Hid (Below w.heap.size w w'))
    case atStart => exact ⟨0, rfl, Lib.hid ⟨by omega, by omega⟩, by rw [fld_zero]; exact M0, HBl⟩
    case round =>
      obtain ⟨i, rfl, HJ, HA, HB⟩ := hrel
      clear M0 HBl
      cases gk with
      | zero => have := HJ.out; omega
      | succ k =>
        by_cases hlt : i < 64
        · have HJ' := Lib.hid (show i < 64 ∧ 64 < (k + 1) + i from ⟨hlt, HJ.out.2⟩)
          have hlen : i < (fld (pdN key by') (bsN key) i).length := by rw [fld_length (by rw [HPl.out, HBs.out]) (by rw [HPl.out]; omega), HBs.out]; exact hlt
          have c1 := HA.out.cell (i := i) hlen
          rw [fld_get (by rw [HPl.out, HBs.out]) (by rw [HPl.out]; exact hlt)] at c1
          have hst := fld_step (new := pdN key by') (old := bsN key) (by rw [HPl.out, HBs.out]) (i := i) (by rw [HPl.out]; exact hlt)
          rw [pdN_get key by' hlt] at hst
          have hx := getD_lt0 (l := bsN key) (m := 256) (by decide) i HBt.out
          obtain ⟨x, hxe⟩ : ∃ x, (bsN key).getD i 0 = x := ⟨_, rfl⟩
          rw [hxe] at c1 hst hx
          have e1 := xor_u8 x by' hx HBy.out
          have fz := HA.out.fz i
          have z1 : (0 : Int) ≤ (i : Int) := by omega
          have z2 : (i : Int) < 64 := by omega
          have HSt := Lib.hid hst
          clear hlen hst hx hxe HJ hlt
          go_wp2_with fail
          go_roundg k
          case measure => have := HJ'.out; omega
          case rel => exact ⟨i + 1, by go_num, Lib.hid (by have := HJ'.out; omega), Lib.hid (by
            have h := HA.out.set i (x ^^^ by')
            rw [HSt.out] at h
            exact h), Lib.hid (below_grown HB.out HB.out.size (grown_set _ _ _ _) HBW.out)⟩
        · have hi : i = 64 := by have := HJ.out; omega
          subst hi
          have hA := HA.out
          rw [show fld (pdN key by') (bsN key) 64 = pdN key by' from by
            have := fld_all (new := pdN key by') (old := bsN key) (by rw [HPl.out, HBs.out])
            rwa [HPl.out] at this] at hA
          have HE := Lib.hid hA
          clear hA
          go_wp2_with fail
          go_ret
          exact ⟨_, 64, rfl, HBW.out, HE.out, Nat.le_refl _, HB.out⟩
end Go.Proofs.Ytblnclooobggnaa.Mc

namespace Go.Proofs.Ytblnclooobggnaa.Mc
open Go.RowKit Go.Proofs.Ytblnclooobggnaa.L Go.Proofs.Ytblnclooobggnaa.N Go.Proofs.Ytblnclooobggnaa.H Go.Proofs.YtblnclooobggnaaW.PrintWords

set_option maxRecDepth 100000 in
set_option maxHeartbeats 1600000 in
theorem mark_any (key : List Nat) (L : List (List Nat)) (A A2 : Option Addr) (c c2 : Nat) (w : World) (hC : (Kd.int .u8).C w A key.length (nat key)) (hc : key.length ≤ c) (hk : ∀ x ∈ key, x < 256) (hl : key.length ≤ 70368744177664) (h : RB w A2 L) (hL : L.length ≤ 100000000) (hlen : L.flatten.length ≤ 100000000000) :
    Calls Try.prog 49 #[.slice A key.length c, .slice A2 L.length c2] w fun e w' => e = .returned (.agg (arr .u8 (markN key L.flatten))) ∧ Below w.heap.size w w' := by
  have HC := Lib.hid hC
  have HCc := Lib.hid hc
  have HK := Lib.hid hk
  have HKl := Lib.hid hl
  have HR := Lib.hid h
  have HL := Lib.hid (show L.length ≤ 100000000 ∧ L.flatten.length ≤ 100000000000 from ⟨hL, hlen⟩)
  have z1 : (L.length : Int) ≤ 100000000 := by omega
  clear hC hc hk hl h hL hlen
  go_enter Try.func49, Try.ntmps49
  go_wp2_with fail
  refine calls_at fun W hW => ?_
  have h4 : AB .u8 tSum w.heap.size z32 W := hW ▸ AB.mk w .u8 tSum z32
  have hb : Below w.heap.size w W := hW ▸ (Below.refl _ _).alloc (Nat.le_refl _) _
  have hsz : W.heap.size = w.heap.size + 1 := by rw [hW]; simp
  clear hW
  refine (pad_any key A c 54 W (Kd.C_below HC.out hb) HCc.out HK.out (by decide) HKl.out).mono ?_
  rintro e W1 ⟨bp, cp, rfl, hbp, hap, hcp, hb1⟩
  have H4 := Lib.hid (h4.below (by omega) hb1)
  have HB1 := Lib.hid (hb.trans (hb1.mono hb.size))
  have HAp := Lib.hid hap
  have HCp := Lib.hid hcp
  have HL4 := Lib.hid (show w.heap.size < W1.heap.size from by have := hb1.size; omega)
  clear h4 hb hsz hbp hap hcp hb1
  obtain ⟨ps, hpl, hps, hPS⟩ := RB_to_S (HR.out.below HB1.out) (by have := HL.out; omega)
  have HPs := Lib.hid hps
  have HPS := Lib.hid hPS
  have HPl := Lib.hid hpl
  have hpad : (Kd.int .u8).C W1 (some ⟨bp, 0, none⟩) 64 (nat (pdN key 54)) := by
    have := HAp.out.row (by rw [pdN_len]; decide)
    rwa [pdN_len] at this
  have HPad := Lib.hid hpad
  clear hpl hps hPS hpad
  go_wp2_with (at_builtin; refine Kd.R_append_row (fun p : Option Addr × Nat × Nat => Value.slice p.1 p.2.1 p.2.2) (none, 0, 0) (w0 := w) w.heap.size rfl (.tmp 8) (.tmp 9) 72 41 (.slice none 0 0) 24 rfl Try.underlying72 info_sl rfl (by decide) _ [(some ⟨bp, 0, none⟩, 64, cp)] ps A2 L.length c2 (fun _ => True) rfl rfl (fun _ _ => trivial) (kSl_lit (heap_alloc_new W1 _) HB1.out.size) (Kd.C_alloc HPs.out _) (HB1.out.alloc HB1.out.size _) (Nat.le_trans HB1.out.size (by simp)) (by have := HL.out; simp; omega) ?_; intro v1 w2 hr2 hb2 hg2 hat2; (have HR2 := Lib.hid hr2); (have HB2 := Lib.hid hb2); (have HG2 := Lib.hid hg2); (have HAt2 := Lib.hid hat2); clear hr2 hb2 hg2 hat2)
  obtain ⟨hb12, hs12⟩ := below_new (show (W1.alloc _).grownBy w2 (some W1.heap.size) from HG2.out)
  obtain ⟨A5, c5, hv1, hc5, hC5⟩ := Kd.R_reads HR2.out
  have hPS2 := (PS.one (pdN_len key 54) HPad.out (pdN_lt HK.out (by decide)) HCp.out).app HPS.out
  have hM : ([pdN key 54] ++ L).flatten = pdN key 54 ++ L.flatten := by simp
  have hMl : ([pdN key 54] ++ L).flatten.length = 64 + L.flatten.length := by rw [hM, List.length_append, pdN_len]
  have hq := concat_any ([pdN key 54] ++ L) A5 c5 w2 (RB_of_S hC5 (hPS2.below hb12)) (by have := HL.out; simp; omega) (by rw [hMl]; have := HL.out; omega)
  rw [← hPS2.1, ← hv1, hM] at hq
  have HQ := Lib.hid hq
  have HB12 := Lib.hid (HB1.out.trans (hb12.mono HB1.out.size))
  have H42 := Lib.hid (H4.out.below H4.out.lt hb12)
  clear hb12 hs12 hv1 hc5 hC5 hPS2 hM hMl hq HR2 HG2 HB2 HAt2 HPad HPS HPs HPl HAp
  refine HQ.out.mono ?_
  rintro e w3 ⟨v3, rfl, hr3, hb3⟩
  have HB3 := Lib.hid (HB12.out.trans (hb3.mono HB12.out.size))
  have H43 := Lib.hid (H42.out.below H42.out.lt hb3)
  obtain ⟨A6, c6, rfl, hc6, hC6⟩ := Kd.R_reads hr3
  rw [nat_length] at hc6 hC6 ⊢
  have HC6 := Lib.hid hC6
  have Hc6 := Lib.hid hc6
  clear hr3 hb3 HQ HB12 H42 hc6 hC6
  have hml : (pdN key 54 ++ L.flatten).length ≤ 100000000064 := by rw [List.length_append, pdN_len]; have := HL.out; omega
  have hmt : ∀ x ∈ pdN key 54 ++ L.flatten, x < 256 := app_lt (pdN_lt HK.out (by decide)) (RB_lt HR.out)
  have HMl := Lib.hid hml
  have HMt := Lib.hid hmt
  have HMk := Lib.hid (show markN key L.flatten = shaN (pdN key 92 ++ shaN (pdN key 54 ++ L.flatten)) from rfl)
  clear hml hmt
  generalize pdN key 54 ++ L.flatten = M at HC6 Hc6 HMl HMt HMk ⊢
  go_wp2_with fail
  have hq := of_any [M] _ 1 _ (RB_one 41 HC6.out HMt.out Hc6.out) (by simp) (by have := HMl.out; simp; omega) (by have := HMl.out; simp; omega)
  rw [show ([M] : List (List Nat)).flatten = M from by simp] at hq
  have HQ := Lib.hid hq
  clear hq
  obtain ⟨R, hR⟩ : ∃ R, shaN M = R := ⟨_, rfl⟩
  have hRl := shaN_length M
  have hRt := shaN_lt M
  rw [hR] at HQ HMk hRl hRt
  have HRl := Lib.hid hRl
  have HRt := Lib.hid hRt
  clear hR hRl hRt
  refine HQ.out.mono ?_
  rintro e w4 ⟨rfl, hb4⟩
  have hb34 : Below w3.heap.size w3 w4 := ((Below.refl _ _).alloc (Nat.le_refl _) _).trans (hb4.mono (by rw [alloc_size]; omega))
  have HB4 := Lib.hid (HB3.out.trans (hb34.mono HB3.out.size))
  have H44 := Lib.hid (H43.out.below H43.out.lt hb34)
  clear hb4 hb34 HQ HB3 H43
  go_wp2_with (refine store_ab .u8 w4.heap.size z32 R rfl rfl rfl rfl rfl (AB.mk w4 .u8 tSum z32) (by rw [HRl.out]; exact info_sum) (by rw [HRl.out]; rfl) ?_; intro W5 h5 hg5; (have H5 := Lib.hid h5); (have HG5 := Lib.hid hg5); clear h5 hg5)
  obtain ⟨hb5, hs5⟩ := below_new HG5.out
  have HB5 := Lib.hid (HB4.out.trans (hb5.mono HB4.out.size))
  have H45 := Lib.hid (H44.out.below H44.out.lt hb5)
  clear hb5 hs5 HG5 HB4 H44
  generalize w4.heap.size = b5 at *
  refine Q.wp_region_segsF none [([0, 2], some 1), ([], some 3), ([], some 4)] [] 5 (by kernel_rfl) (by kernel_rfl) (by kernel_rfl) (by kernel_rfl) ?_
  dsimp only [Q.wpSegsF, Q.picks, Q.pick]
  repeat (go_big_quiet_step (fail))
  refine wpQuiet_nil ?_
  have HQ := Lib.hid (pad_any key A c 92 W5.drew (Kd.C_below HC.out HB5.out.drew) HCc.out HK.out (by decide) HKl.out)
  go_wp2_with (go_at_call 66; refine HQ.out.mono ?_; rintro e w6 ⟨bq, cq, rfl, hbq, haq, hcq, hb6⟩; (have HAq := Lib.hid haq); (have HCq := Lib.hid hcq); (have HB6 := Lib.hid hb6); clear hbq haq hcq hb6)
  refine Q.ev_keep HB6.out (Nat.le_refl _) ?_
  have HBd := Lib.hid (HB5.out.trans (((stay0 W5).trans HB6.out).mono HB5.out.size))
  have H46 := Lib.hid (H45.out.drew.below H45.out.lt HB6.out)
  have H56 := Lib.hid (H5.out.drew.below H5.out.lt HB6.out)
  have HZ6 := Lib.hid (show W5.heap.size ≤ w6.heap.size from HB6.out.size)
  clear HQ HB6 HB5 H45 H5
  refine wpQuiet_nil ?_
  go_wp2_with fail
  refine Q.ev_keep ((Below.refl _ _).alloc (Nat.le_refl _) _) HZ6.out ?_
  refine wpQuiet_nil ?_
  have hrb : RB (w6.alloc (.cells #[.slice (some ⟨bq, 0, none⟩) 64 cq, .slice (some ⟨b5, 0, none⟩) 32 32] 41)) (some ⟨w6.heap.size, 0, none⟩) [pdN key 92, R] := by
    refine RB_blk (heap_alloc_new w6 _) (fun j hj => ?_)
    have h2 : j = 0 ∨ j = 1 := by simp at hj; omega
    rcases h2 with rfl | rfl
    · have h1 := HAq.out.row (by rw [pdN_len]; decide)
      rw [show ([pdN key 92, R] : List (List Nat)).getD 0 [] = pdN key 92 from rfl]
      rw [pdN_len] at h1 ⊢
      exact ⟨_, _, rfl, Kd.C_alloc h1 _, pdN_lt HK.out (by decide), HCq.out⟩
    · have h1 := H56.out.row (by rw [HRl.out]; decide)
      rw [show ([pdN key 92, R] : List (List Nat)).getD 1 [] = R from rfl]
      rw [HRl.out] at h1 ⊢
      exact ⟨_, _, rfl, Kd.C_alloc h1 _, HRt.out, Nat.le_refl _⟩
  have hfl : ([pdN key 92, R] : List (List Nat)).flatten = pdN key 92 ++ R := by simp
  have hq := of_any [pdN key 92, R] _ 2 _ hrb (by simp) (by rw [hfl, List.length_append, pdN_len, HRl.out]; decide) (fun x hx => by
    simp at hx
    rcases hx with rfl | rfl
    · rw [pdN_len]; decide
    · rw [HRl.out]; decide)
  rw [hfl, ← HMk.out] at hq
  have HQ := Lib.hid hq
  clear hq hrb hfl
  obtain ⟨Z, hZ⟩ : ∃ Z, markN key L.flatten = Z := ⟨_, rfl⟩
  have hZl := markN_len key L.flatten
  rw [hZ] at HQ hZl
  have HZl := Lib.hid hZl
  have HZe := Lib.hid hZ
  clear hZ hZl
  go_wp2_with (go_at_call 64; refine HQ.out.mono ?_; rintro e w7 ⟨rfl, hb7⟩; (have HB7 := Lib.hid hb7); clear hb7)
  refine Q.ev_keep HB7.out (by rw [alloc_size]; have := HZ6.out; omega) ?_
  have hb67 : Below w6.heap.size w6 w7 := ((Below.refl _ _).alloc (Nat.le_refl _) _).trans (HB7.out.mono (by rw [alloc_size]; omega))
  have H47 := Lib.hid (H46.out.below H46.out.lt hb67)
  have HBe := Lib.hid (HBd.out.trans (hb67.mono HBd.out.size))
  clear HQ HB7 hb67 H46 H56 HBd HZ6 HAq HCq
  refine wpQuiet_nil ?_
  refine store_ab .u8 w.heap.size z32 Z rfl rfl rfl rfl rfl H47.out (by rw [HZl.out]; exact info_sum) (by rw [HZl.out]; rfl) ?_
  intro w8 h8 hg8
  have H8 := Lib.hid h8
  have HBf := Lib.hid (below_grown HBe.out HBe.out.size hg8 (Nat.le_refl _))
  clear h8 hg8
  refine NoPanic.normal ?_
  go_wp2_with fail
  have hl := H8.out.load (P := Try.prog) Try.underlying107 (by rw [HZl.out]; exact info_sum)
  exact bodyPost_ret (v := .agg (arr .u8 Z)) (by simp [results, Try.results49, hl, asAddr]) rfl ⟨by rw [HZe.out], HBf.out⟩
end Go.Proofs.Ytblnclooobggnaa.Mc

namespace Go.Proofs.Ytblnclooobggnaa.Mc
open Go.RowKit Go.Proofs.Ytblnclooobggnaa.L Go.Proofs.Ytblnclooobggnaa.N Go.Proofs.Ytblnclooobggnaa.H Go.Proofs.YtblnclooobggnaaW.PrintWords

theorem take_ext {a b : List Nat} {i : Nat} (ha : i < a.length) (hb : i < b.length) : a.take (i + 1) = b.take (i + 1) ↔ a.take i = b.take i ∧ a.getD i 0 = b.getD i 0 := by
  rw [List.take_succ_eq_append_getElem ha, List.take_succ_eq_append_getElem hb, List.getD_eq_getElem?_getD, List.getElem?_eq_getElem ha, List.getD_eq_getElem?_getD, List.getElem?_eq_getElem hb]
  constructor
  · intro h
    have := List.append_inj h (by simp; omega)
    exact ⟨this.1, by simpa using this.2⟩
  · rintro ⟨h1, h2⟩
    simp only [Option.getD_some] at h2
    rw [h1, h2]
set_option maxRecDepth 100000 in
set_option maxHeartbeats 1600000 in
theorem equal_any (a b : List Nat) (A B : Option Addr) (ca cb : Nat) (w : World) (hA : (Kd.int .u8).C w A a.length (nat a)) (hB : (Kd.int .u8).C w B b.length (nat b)) (ha : ∀ x ∈ a, x < 256) (hb : ∀ x ∈ b, x < 256) :
    Calls Try.prog 68 #[.slice A a.length ca, .slice B b.length cb] w fun e w' => e = .returned (.bool (decide (a = b))) ∧ Below w.heap.size w w' := by
  have hm1 := (B_open hA).1
  have hm2 := (B_open hB).1
  by_cases hl : a.length = b.length
  · have HA := Lib.hid hA
    have HB := Lib.hid hB
    have Ha := Lib.hid ha
    have Hb := Lib.hid hb
    have HL := Lib.hid hl
    have t1 : ((a.length : Int) != (b.length : Int)) = false := by simp [hl]
    have t1n : (a.length != b.length) = false := by simp [hl]
    clear hA hB ha hb hl
    go_enter Try.func68, Try.ntmps68
    go_wp2_with fail
    clear t1 t1n
    go_loopg [5, 14] (a.length + 1) (fun g v5 v14 w' => ∃ i v : Nat, v14 = .int .i64 i ∧ v5 = .int .u8 v ∧ Hid (i ≤ a.length ∧ a.length < g + i) ∧ Hid (v < 256 ∧ (v = 0 ↔ a.take i = b.take i)) ∧ Hid (Below w.heap.size w w'))
    case atStart => exact ⟨0, 0, rfl, rfl, Lib.hid ⟨by omega, by omega⟩, Lib.hid ⟨by decide, by simp⟩, Lib.hid (Below.refl _ _)⟩
    case round =>
      obtain ⟨i, v, rfl, rfl, HJ, HV, HBl⟩ := hrel
      cases gk with
      | zero => have := HJ.out; omega
      | succ k =>
        by_cases hlt : i < a.length
        · have HJ' := Lib.hid (show i < a.length ∧ a.length < (k + 1) + i from ⟨hlt, HJ.out.2⟩)
          have hltb : i < b.length := by have := HL.out; omega
          obtain ⟨b1, o1, rfl, hb1, hc1⟩ := B_at (Kd.C_below HA.out HBl.out) (by omega)
          obtain ⟨b2, o2, rfl, hb2, hc2⟩ := B_at (Kd.C_below HB.out HBl.out) (by omega)
          have q1 := gw hb1 (hc1 i hlt)
          have q2 := gw hb2 (hc2 i hltb)
          have hx := getD_lt hlt Ha.out
          have hy := getD_lt hltb Hb.out
          have HT := Lib.hid (take_ext hlt hltb)
          clear hc1 hc2
          generalize a.getD i 0 = x at q1 hx HT
          generalize b.getD i 0 = y at q2 hy HT
          have e1 := xor_u8 x y hx hy
          have hxy := xor_lt8 hx hy
          have e2 := or_u8 v (x ^^^ y) HV.out.1 hxy
          have hvl : v ||| (x ^^^ y) < 256 := Nat.or_lt_two_pow (n := 8) HV.out.1 hxy
          have HVl := Lib.hid hvl
          obtain ⟨xy, hxye⟩ : ∃ z, x ^^^ y = z := ⟨_, rfl⟩
          rw [hxye] at e1 e2 HVl
          have HXY := Lib.hid hxye
          have z1 : (0 : Int) ≤ (i : Int) := by omega
          have z2 : (i : Int) < (a.length : Int) := by omega
          have z3 : (i : Int) < (b.length : Int) := by omega
          clear hxy hvl hxye hx hy hlt hltb HJ hb1 hb2
          go_wp2_with fail
          refine Q.wp_region_segs none [([0, 1, 2, 3, 4, 5, 6, 7, 8, 9, 10, 11], none)] (by kernel_rfl) (by kernel_rfl) (by kernel_rfl) (by kernel_rfl) ?_
          dsimp only [Q.wpSegs, Q.picks, Q.pick]
          repeat (go_big_quiet_step (fail))
          refine wpQuiet_nil ?_
          refine NoPanic.normal ?_
          go_wp2_with fail
          go_roundg k
          case measure => have := HJ'.out; omega
          case rel => exact ⟨i + 1, v ||| xy, by go_num, rfl, Lib.hid (by have := HJ'.out; omega), Lib.hid ⟨HVl.out, by rw [HT.out, ← HXY.out, or_zero, HV.out.2]⟩, Lib.hid HBl.out.drew⟩
        · have hi : i = a.length := by have := HJ.out; omega
          subst hi
          have hv := HV.out.2
          rw [List.take_length, List.take_of_length_le (by rw [HL.out]; exact Nat.le_refl _)] at hv
          have HVv := Lib.hid hv
          clear hv
          by_cases hz : v = 0
          · have HE := Lib.hid (decide_eq_true (HVv.out.1 hz))
            clear HVv HV
            subst hz
            go_wp2_with fail
            go_ret
            exact ⟨by rw [HE.out]; rfl, HBl.out⟩
          · have t1 : ((v : Int) == 0) = false := by rw [beq_eq_false_iff_ne]; omega
            have t2 : (v == 0) = false := by rw [beq_eq_false_iff_ne]; exact hz
            have HE := Lib.hid (show decide (a = b) = false from decide_eq_false (fun h => hz (HVv.out.2 h)))
            clear hz HVv HV
            go_wp2_with fail
            go_ret
            exact ⟨by rw [HE.out]; rfl, HBl.out⟩
  · have t1 : ((a.length : Int) != (b.length : Int)) = true := by rw [bne_iff_ne]; omega
    have t1n : (a.length != b.length) = true := by rw [bne_iff_ne]; exact hl
    have HN := Lib.hid (show ¬ a = b from fun h => hl (by rw [h]))
    clear hA hB ha hb hl
    go_enter Try.func68, Try.ntmps68
    go_wp2_with fail
    go_ret
    exact ⟨by rw [decide_eq_false HN.out]; rfl, Below.refl _ _⟩
/-- is a text the beginning of a mark? -/
def rightN (key mark b : List Nat) : Bool := decide (8 ≤ mark.length ∧ mark.length ≤ 32 ∧ (markN key b).take mark.length = mark)
set_option maxRecDepth 100000 in
set_option maxHeartbeats 1600000 in
theorem right_any (key mark : List Nat) (L : List (List Nat)) (A Am A2 : Option Addr) (c cm c2 : Nat) (w : World) (hC : (Kd.int .u8).C w A key.length (nat key)) (hc : key.length ≤ c) (hk : ∀ x ∈ key, x < 256) (hl : key.length ≤ 70368744177664) (hM : (Kd.int .u8).C w Am mark.length (nat mark)) (hmk : ∀ x ∈ mark, x < 256) (h : RB w A2 L) (hL : L.length ≤ 100000000) (hlen : L.flatten.length ≤ 100000000000) :
    Calls Try.prog 51 #[.slice A key.length c, .slice Am mark.length cm, .slice A2 L.length c2] w fun e w' => e = .returned (.bool (rightN key mark L.flatten)) ∧ Below w.heap.size w w' := by
  have hm1 := (B_open hM).1
  by_cases h8 : mark.length < 8
  · have t1 : decide ((mark.length : Int) < 8) = true := decide_eq_true (by omega)
    have HN := Lib.hid (show rightN key mark L.flatten = false from decide_eq_false (by omega))
    clear hC hc hk hl hM hmk h hL hlen h8
    go_enter Try.func51, Try.ntmps51
    go_wp2_with fail
    go_ret
    exact ⟨by rw [HN.out]; rfl, Below.refl _ _⟩
  have t1 : decide ((mark.length : Int) < 8) = false := decide_eq_false (by omega)
  by_cases h32 : 32 < mark.length
  · have t2 : decide ((32 : Int) < (mark.length : Int)) = true := decide_eq_true (by omega)
    have HN := Lib.hid (show rightN key mark L.flatten = false from decide_eq_false (by omega))
    clear hC hc hk hl hM hmk h hL hlen h8 h32
    go_enter Try.func51, Try.ntmps51
    go_wp2_with fail
    go_ret
    exact ⟨by rw [HN.out]; rfl, Below.refl _ _⟩
  have t2 : decide ((32 : Int) < (mark.length : Int)) = false := decide_eq_false (by omega)
  have HQ := Lib.hid (mark_any key L A A2 c c2 w hC hc hk hl h hL hlen)
  have HM := Lib.hid hM
  have HMk := Lib.hid hmk
  have HL := Lib.hid (show 8 ≤ mark.length ∧ mark.length ≤ 32 from ⟨by omega, by omega⟩)
  obtain ⟨Z, hZ⟩ : ∃ Z, markN key L.flatten = Z := ⟨_, rfl⟩
  have hZl := markN_len key L.flatten
  have hZt := markN_lt key L.flatten
  rw [hZ] at HQ hZl hZt
  have HRn := Lib.hid (show rightN key mark L.flatten = decide (Z.take mark.length = mark) from by
    unfold rightN
    rw [hZ, decide_eq_decide]
    constructor
    · exact fun h => h.2.2
    · exact fun h => ⟨by omega, by omega, h⟩)
  have HZl := Lib.hid hZl
  have HZt := Lib.hid hZt
  have z1 : (mark.length : Int) ≤ 32 := by omega
  have z2 : (0 : Int) ≤ (mark.length : Int) := by omega
  clear hC hc hk hl hM hmk h hL hlen h8 h32 hZ hZl hZt
  go_enter Try.func51, Try.ntmps51
  go_wp2_with fail
  refine HQ.out.mono ?_
  rintro e w1 ⟨rfl, hb1⟩
  have HB1 := Lib.hid hb1
  clear hb1 HQ
  go_wp2_with (refine store_ab .u8 w1.heap.size z32 Z rfl rfl rfl rfl rfl (AB.mk w1 .u8 tSum z32) (by rw [HZl.out]; exact info_sum) (by rw [HZl.out]; rfl) ?_; intro W5 h5 hg5; (have H5 := Lib.hid h5); (have HG5 := Lib.hid hg5); clear h5 hg5)
  obtain ⟨hb5, hs5⟩ := below_new HG5.out
  have HB5 := Lib.hid (HB1.out.trans (hb5.mono HB1.out.size))
  have hr := H5.out.row (by rw [HZl.out]; decide)
  rw [HZl.out] at hr
  have hct := Kd.C_take (m := mark.length) (show (Kd.int .u8).C W5 (some ⟨w1.heap.size, 0, none⟩) (nat Z).length (nat Z) from by rw [nat_length, HZl.out]; exact hr) (by rw [nat_length, HZl.out]; exact HL.out.2)
  rw [← nat_take, nat_length] at hct
  have htl : (Z.take mark.length).length = mark.length := by rw [List.length_take, HZl.out]; have := HL.out; omega
  have hq := equal_any (Z.take mark.length) mark _ Am 32 cm W5 hct (Kd.C_below HM.out HB5.out) (take_lt _ HZt.out) HMk.out
  rw [htl] at hq
  have HQ := Lib.hid hq
  clear hb5 hs5 hr hct htl hq HG5 HB1
  refine HQ.out.mono ?_
  rintro e w6 ⟨rfl, hb6⟩
  have HB6 := Lib.hid (HB5.out.trans (hb6.mono HB5.out.size))
  clear hb6 HQ
  go_wp2_with fail
  go_ret
  exact ⟨by rw [HRn.out]; rfl, HB6.out⟩
end Go.Proofs.Ytblnclooobggnaa.Mc

namespace Go.Proofs.Ytblnclooobggnaa.Mc
open Go.RowKit Go.Proofs.Ytblnclooobggnaa.L Go.Proofs.Ytblnclooobggnaa.N Go.Proofs.Ytblnclooobggnaa.H Go.Proofs.YtblnclooobggnaaW.PrintWords

/-- a string's bytes -/
def sbN (s : ByteArray) : List Nat := s.data.toList.map UInt8.toNat
theorem sbN_len (s : ByteArray) : (sbN s).length = s.size := by simp [sbN]
theorem sbN_lt (s : ByteArray) : ∀ x ∈ sbN s, x < 256 := by
  intro x hx
  obtain ⟨y, _, rfl⟩ := List.mem_map.1 hx
  exact y.toNat_lt
theorem sb_below (w : World) (e : TypeId) (s : ByteArray) : Below w.heap.size w (Lib.bytesWorld w e s) := ⟨rfl, rfl, rfl, by rw [Lib.bytesWorld_size]; omega, fun k hk => Lib.bytesWorld_at_old w e s k hk⟩
theorem sb_C (w : World) (s : ByteArray) (hs : s.size ≤ 9223372036854775807) : (Kd.int .u8).C (Lib.bytesWorld w 5 s) (some ⟨w.heap.size, 0, none⟩) s.size (nat (sbN s)) := by
  rw [← sbN_len s]
  refine Kd.C_of_reads (d := (0 : Int)) ⟨nat_length _, by rw [sbN_len]; exact hs, fun _ => ⟨_, rfl, fun j hj => ?_⟩⟩
  have hj' : j < s.size := by rw [sbN_len] at hj; exact hj
  rw [add_at, Nat.zero_add, Lib.bytesWorld_cell w _ s j hj', nat_get hj]
  congr 2
  simp [sbN, List.getD_eq_getElem?_getD, hj']
theorem grown_cap (w : World) (n : Nat) (e : TypeId) : n ≤ grownCap w n 0 e := grownCap_ge w n 0 e
def z16 : List Nat := List.replicate 16 0
abbrev tKey : TypeId := 27
theorem info_key : (Try.prog.info? tKey).map (·.size) = some 16 := by kernel_rfl
/-- the key of a secret, a label and a number -/
def drvN (secret lab : List Nat) (i : Nat) : List Nat := (markN secret (lab ++ [0, i])).take 16
theorem drvN_len (secret lab : List Nat) (i : Nat) : (drvN secret lab i).length = 16 := by rw [drvN, List.length_take, markN_len]; rfl
set_option maxRecDepth 100000 in
set_option maxHeartbeats 1600000 in
theorem derive_bad (n : Nat) (A : Option Addr) (c : Nat) (s : ByteArray) (i : Int) (w : World) (h : n = 0 ∨ i < 0 ∨ 255 < i) (hn : n ≤ 9223372036854775807) :
    Calls Try.prog 44 #[.slice A n c, .string s, .int .i64 i] w fun e w' => e = .returned (.tuple #[.agg (arr .u8 z16), .int .i64 1]) ∧ Below w.heap.size w w' := by
  by_cases h0 : n = 0
  · subst h0
    clear h hn
    go_enter Try.func44, Try.ntmps44
    go_upto_region 2 with (fail)
    refine wp_at fun W hW => ?_
    obtain ⟨h2, h4, hb, hsz⟩ := two_ab (k := .u8) (k' := .u8) z16 z16 hW
    have H2 := Lib.hid h2
    have H4 := Lib.hid h4
    have HB := Lib.hid hb
    have HSz := Lib.hid hsz
    clear hW h2 h4 hb hsz
    go_wp2_with (first
      | (refine load_ab .u8 (w.heap.size + 1) z16 rfl rfl rfl H4.out Try.underlying27 info_key ?_)
      | (refine store_ab .u8 w.heap.size z16 z16 rfl rfl rfl rfl rfl H2.out info_key rfl ?_; intro W2 hs2 hg2; (have HS2 := Lib.hid hs2); (have HG2 := Lib.hid hg2); clear hs2 hg2))
    have hl := HS2.out.load (P := Try.prog) Try.underlying27 info_key
    have hb2 := below_grown HB.out HB.out.size HG2.out (Nat.le_refl _)
    exact bodyPost_ret (v := .tuple #[.agg (arr .u8 z16), .int .i64 1]) (by simp [results, Try.results44, hl, asAddr]) rfl ⟨rfl, hb2⟩
  · have t0 : ((n : Int) == 0) = false := by rw [beq_eq_false_iff_ne]; omega
    have t0n : (n == 0) = false := by rw [beq_eq_false_iff_ne]; exact h0
    by_cases h1 : i < 0
    · have t1 : decide (i < 0) = true := decide_eq_true h1
      clear h h0 h1 hn
      go_enter Try.func44, Try.ntmps44
      go_upto_region 2 with (fail)
      refine wp_at fun W hW => ?_
      obtain ⟨h2, h4, hb, hsz⟩ := two_ab (k := .u8) (k' := .u8) z16 z16 hW
      have H2 := Lib.hid h2
      have H4 := Lib.hid h4
      have HB := Lib.hid hb
      have HSz := Lib.hid hsz
      clear hW h2 h4 hb hsz
      go_wp2_with (first
        | (refine load_ab .u8 (w.heap.size + 1) z16 rfl rfl rfl H4.out Try.underlying27 info_key ?_)
        | (refine store_ab .u8 w.heap.size z16 z16 rfl rfl rfl rfl rfl H2.out info_key rfl ?_; intro W2 hs2 hg2; (have HS2 := Lib.hid hs2); (have HG2 := Lib.hid hg2); clear hs2 hg2))
      have hl := HS2.out.load (P := Try.prog) Try.underlying27 info_key
      have hb2 := below_grown HB.out HB.out.size HG2.out (Nat.le_refl _)
      exact bodyPost_ret (v := .tuple #[.agg (arr .u8 z16), .int .i64 1]) (by simp [results, Try.results44, hl, asAddr]) rfl ⟨rfl, hb2⟩
    · have t1 : decide (i < 0) = false := decide_eq_false h1
      have t2 : decide (255 < i) = true := decide_eq_true (by omega)
      clear h h0 h1 hn
      go_enter Try.func44, Try.ntmps44
      go_upto_region 2 with (fail)
      refine wp_at fun W hW => ?_
      obtain ⟨h2, h4, hb, hsz⟩ := two_ab (k := .u8) (k' := .u8) z16 z16 hW
      have H2 := Lib.hid h2
      have H4 := Lib.hid h4
      have HB := Lib.hid hb
      have HSz := Lib.hid hsz
      clear hW h2 h4 hb hsz
      go_wp2_with (first
        | (refine load_ab .u8 (w.heap.size + 1) z16 rfl rfl rfl H4.out Try.underlying27 info_key ?_)
        | (refine store_ab .u8 w.heap.size z16 z16 rfl rfl rfl rfl rfl H2.out info_key rfl ?_; intro W2 hs2 hg2; (have HS2 := Lib.hid hs2); (have HG2 := Lib.hid hg2); clear hs2 hg2))
      have hl := HS2.out.load (P := Try.prog) Try.underlying27 info_key
      have hb2 := below_grown HB.out HB.out.size HG2.out (Nat.le_refl _)
      exact bodyPost_ret (v := .tuple #[.agg (arr .u8 z16), .int .i64 1]) (by simp [results, Try.results44, hl, asAddr]) rfl ⟨rfl, hb2⟩
set_option maxRecDepth 100000 in
set_option maxHeartbeats 1600000 in
theorem derive_ok (secret : List Nat) (A : Option Addr) (c : Nat) (s : ByteArray) (i : Nat) (w : World) (hC : (Kd.int .u8).C w A secret.length (nat secret)) (hc : secret.length ≤ c) (hk : ∀ x ∈ secret, x < 256) (hl : secret.length ≤ 70368744177664) (h0 : 0 < secret.length) (hi : i ≤ 255) (hs : s.size ≤ 32) :
    Calls Try.prog 44 #[.slice A secret.length c, .string s, .int .i64 (i : Int)] w fun e w' => e = .returned (.tuple #[.agg (arr .u8 (drvN secret (sbN s) i)), .int .i64 0]) ∧ Below w.heap.size w w' := by
  have t0 : ((secret.length : Int) == 0) = false := by rw [beq_eq_false_iff_ne]; omega
  have t0n : (secret.length == 0) = false := by rw [beq_eq_false_iff_ne]; omega
  have t1 : decide ((i : Int) < 0) = false := decide_eq_false (by omega)
  have t2 : decide ((255 : Int) < (i : Int)) = false := decide_eq_false (by omega)
  have t3 : decide ((32 : Int) < (s.size : Int)) = false := decide_eq_false (by omega)
  have z1 : (0 : Int) ≤ (i : Int) := by omega
  have z2 : (i : Int) ≤ 255 := by omega
  have HC := Lib.hid hC
  have HCc := Lib.hid hc
  have HK := Lib.hid hk
  have HKl := Lib.hid hl
  have HS := Lib.hid (show s.size ≤ 32 ∧ i ≤ 255 from ⟨hs, hi⟩)
  clear hC hc hk hl h0 hi hs
  go_enter Try.func44, Try.ntmps44
  go_upto_region 2 with (fail)
  refine wp_at fun W hW => ?_
  obtain ⟨h2, h4, hb, hsz⟩ := two_ab (k := .u8) (k' := .u8) z16 z16 hW
  have H2 := Lib.hid h2
  have H4 := Lib.hid h4
  have HB := Lib.hid hb
  have HSz := Lib.hid hsz
  clear hW h2 h4 hb hsz
  have hcv : ∀ W : World, (convert 9 41 (.string s)).run Try.prog W = .ok (.slice (some ⟨W.heap.size, 0, none⟩) s.size (grownCap W s.size 0 5)) (Lib.bytesWorld W 5 s) := fun W => Lib.run_convert_string_bytes W _ _ _ s Try.underlying9 Try.underlying41 Try.underlying5
  have hbs : ∀ W : World, (Lib.bytesWorld W 5 s).heap.size = W.heap.size + 1 := fun W => Lib.bytesWorld_size W _ s
  go_wp2_with fail
  refine calls_at fun W3 hW3 => ?_
  have e1 := hbs W
  have e2 := alloc_size (Lib.bytesWorld W 5 s) (.cells #[.int .u8 0, .int .u8 (i : Int)] 5)
  rw [e1] at e2
  have hb0 := sb_below W 5 s
  have hb13 : Below (Lib.bytesWorld W 5 s).heap.size (Lib.bytesWorld W 5 s) W3 := hW3 ▸ ((Below.refl _ _).alloc (Nat.le_refl _) _).alloc (by rw [alloc_size]; omega) _
  have hb03 := hb0.trans (hb13.mono (by rw [e1]; omega))
  have hc1 := Kd.C_below (sb_C W s (by have := HS.out; omega)) hb13
  have hil : ∀ x ∈ [0, i], x < 256 := by
    intro x hx
    simp at hx
    have := HS.out
    omega
  have hc2 := C_lit [0, i] (Lib.bytesWorld W 5 s) (0, 0) (by simp)
  rw [e1] at hc2
  have hb2 : Below ((Lib.bytesWorld W 5 s).alloc (.cells (arr .u8 [0, i]) 5)).heap.size ((Lib.bytesWorld W 5 s).alloc (.cells (arr .u8 [0, i]) 5)) W3 := hW3 ▸ (Below.refl _ _).alloc (Nat.le_refl _) _
  have hrb : RB W3 (some ⟨W.heap.size + 1 + 1, 0, none⟩) [sbN s, [0, i]] := by
    have hh : W3.heap[W.heap.size + 1 + 1]? = some (.cells #[.slice (some ⟨W.heap.size, 0, none⟩) s.size (grownCap W s.size 0 5), .slice (some ⟨W.heap.size + 1, 0, none⟩) 2 2] 41 (0, 0)) := by
      rw [hW3, ← e2]
      exact heap_alloc_new _ _
    refine RB_blk hh (fun j hj => ?_)
    have h2 : j = 0 ∨ j = 1 := by simp at hj; omega
    rcases h2 with rfl | rfl
    · rw [show ([sbN s, [0, i]] : List (List Nat)).getD 0 [] = sbN s from rfl, sbN_len]
      exact ⟨_, _, rfl, hc1, sbN_lt s, grown_cap W s.size _⟩
    · rw [show ([sbN s, [0, i]] : List (List Nat)).getD 1 [] = [0, i] from rfl]
      exact ⟨_, _, rfl, Kd.C_below hc2 hb2, hil, Nat.le_refl _⟩
  have hfl : ([sbN s, [0, i]] : List (List Nat)).flatten = sbN s ++ [0, i] := by simp
  have hbW := HB.out.trans (hb03.mono HB.out.size)
  have hq := mark_any secret [sbN s, [0, i]] A _ c 2 W3 (Kd.C_below HC.out hbW) HCc.out HK.out HKl.out hrb (by simp) (by rw [hfl, List.length_append, sbN_len]; have := HS.out; simp; omega)
  rw [hfl] at hq
  have HQ := Lib.hid hq
  have HB3 := Lib.hid hbW
  have H23 := Lib.hid (H2.out.below H2.out.lt hb03)
  have H43 := Lib.hid (H4.out.below H4.out.lt hb03)
  clear hW3 e1 e2 hb0 hb13 hb03 hc1 hil hc2 hb2 hrb hfl hbW hq hcv hbs
  obtain ⟨Z, hZ⟩ : ∃ Z, markN secret (sbN s ++ [0, i]) = Z := ⟨_, rfl⟩
  have hZl := markN_len secret (sbN s ++ [0, i])
  rw [hZ] at HQ hZl
  have HZl := Lib.hid hZl
  have HZe := Lib.hid (show drvN secret (sbN s) i = Z.take 16 from by unfold drvN; rw [hZ])
  clear hZ hZl
  refine HQ.out.mono ?_
  rintro e W4 ⟨rfl, hb4⟩
  have HB4 := Lib.hid (HB3.out.trans (hb4.mono HB3.out.size))
  have H24 := Lib.hid (H23.out.below H23.out.lt hb4)
  have H44 := Lib.hid (H43.out.below H43.out.lt hb4)
  clear hb4 HQ HB3 H23 H43
  go_wp2_with (refine store_ab .u8 W4.heap.size z32 Z rfl rfl rfl rfl rfl (AB.mk W4 .u8 tSum z32) (by rw [HZl.out]; exact info_sum) (by rw [HZl.out]; rfl) ?_; intro W5 h5 hg5; (have H5 := Lib.hid h5); (have HG5 := Lib.hid hg5); clear h5 hg5)
  obtain ⟨hb5, hs5⟩ := below_new HG5.out
  have HB5 := Lib.hid (HB4.out.trans (hb5.mono HB4.out.size))
  have H25 := Lib.hid (H24.out.below H24.out.lt hb5)
  have H45 := Lib.hid (H44.out.below H44.out.lt hb5)
  clear hb5 hs5 HG5 HB4 H24 H44
  generalize W4.heap.size = b9 at *
  refine Q.wp_region_segsF none [] [0, 1] 2 (by kernel_rfl) (by kernel_rfl) (by kernel_rfl) (by kernel_rfl) ?_
  dsimp only [Q.wpSegsF, Q.picks, Q.pick]
  repeat (go_big_quiet_step (fail))
  refine wpQuiet_nil ?_
  refine copy_ab rfl (.tmp 36) (.tmp 37) 41 41 rfl 5 Try.underlying41 info_u8s .u8 tKey _ _ (w.heap.size + 1) 0 _ _ _ _ rfl rfl z16 H45.out (Z.take 16) (by rw [List.length_take, HZl.out]; rfl) (fun _ => ⟨rfl, _, rfl, fun j hj => ?_⟩) (by rw [List.length_take, HZl.out]; decide) ?_
  · have hj16 : j < 16 := by rw [List.length_take, HZl.out] at hj; omega
    have h := H5.out.cell (i := j) (by rw [HZl.out]; omega)
    rw [show (Z.take 16).getD j 0 = Z.getD j 0 from by rw [List.getD_eq_getElem?_getD, List.getElem?_take_of_lt hj16, ← List.getD_eq_getElem?_getD], add_at, Nat.zero_add]
    exact h
  intro w7 h87 hg7
  have htl : (Z.take 16).length = 16 := by rw [List.length_take, HZl.out]; rfl
  have hsp : splice z16 0 (Z.take 16) = Z.take 16 := by rw [splice_front, htl]; simp [z16]
  rw [hsp] at h87
  have H87 := Lib.hid h87
  have H27 := Lib.hid (H25.out.grown ((grown_drew W5 _).trans hg7) (by intro e; injection e with e; omega))
  have HB7 := Lib.hid (below_grown HB5.out HB5.out.size ((grown_drew W5 _).trans hg7) (by omega))
  have HTl := Lib.hid htl
  clear h87 hg7 htl hsp H45 H25 HB5 H5
  refine NoPanic.normal ?_
  rw [← HZe.out] at H87 HTl
  obtain ⟨K, hK⟩ : ∃ K, drvN secret (sbN s) i = K := ⟨_, rfl⟩
  rw [hK] at H87 HTl
  have HKe := Lib.hid hK
  clear hK
  go_wp2_with (first
    | (refine load_ab .u8 (w.heap.size + 1) K rfl rfl rfl H87.out Try.underlying27 (by rw [HTl.out]; exact info_key) ?_)
    | (refine store_ab .u8 w.heap.size z16 K rfl rfl rfl rfl rfl H27.out (by rw [HTl.out]; exact info_key) (by rw [HTl.out]; rfl) ?_; intro W9 h9 hg9; (have R9 := Lib.hid h9); (have RG9 := Lib.hid hg9); clear h9 hg9))
  have hl := R9.out.load (P := Try.prog) Try.underlying27 (by rw [HTl.out]; exact info_key)
  have hb9 := below_grown HB7.out HB7.out.size RG9.out (Nat.le_refl _)
  exact bodyPost_ret (v := .tuple #[.agg (arr .u8 K), .int .i64 0]) (by simp [results, Try.results44, hl, asAddr]) rfl ⟨by rw [HKe.out], hb9⟩
set_option maxRecDepth 100000 in
set_option maxHeartbeats 1600000 in
theorem derive_long (n : Nat) (A : Option Addr) (c : Nat) (s : ByteArray) (i : Nat) (w : World) (h0 : 0 < n) (hn : n ≤ 9223372036854775807) (hi : i ≤ 255) (hs : 32 < s.size) (hs2 : s.size ≤ 9223372036854775807) :
    Calls Try.prog 44 #[.slice A n c, .string s, .int .i64 (i : Int)] w fun e w' => e = .returned (.tuple #[.agg (arr .u8 z16), .int .i64 2]) ∧ Below w.heap.size w w' := by
  have t0 : ((n : Int) == 0) = false := by rw [beq_eq_false_iff_ne]; omega
  have t0n : (n == 0) = false := by rw [beq_eq_false_iff_ne]; omega
  have t1 : decide ((i : Int) < 0) = false := decide_eq_false (by omega)
  have t2 : decide ((255 : Int) < (i : Int)) = false := decide_eq_false (by omega)
  have t3 : decide ((32 : Int) < (s.size : Int)) = true := decide_eq_true (by omega)
  clear h0 hn hi hs hs2
  go_enter Try.func44, Try.ntmps44
  go_upto_region 2 with (fail)
  refine wp_at fun W hW => ?_
  obtain ⟨h2, h4, hb, hsz⟩ := two_ab (k := .u8) (k' := .u8) z16 z16 hW
  have H2 := Lib.hid h2
  have H4 := Lib.hid h4
  have HB := Lib.hid hb
  have HSz := Lib.hid hsz
  clear hW h2 h4 hb hsz
  go_wp2_with (first
    | (refine load_ab .u8 (w.heap.size + 1) z16 rfl rfl rfl H4.out Try.underlying27 info_key ?_)
    | (refine store_ab .u8 w.heap.size z16 z16 rfl rfl rfl rfl rfl H2.out info_key rfl ?_; intro W2 hs2 hg2; (have HS2 := Lib.hid hs2); (have HG2 := Lib.hid hg2); clear hs2 hg2))
  have hl := HS2.out.load (P := Try.prog) Try.underlying27 info_key
  have hb2 := below_grown HB.out HB.out.size HG2.out (Nat.le_refl _)
  exact bodyPost_ret (v := .tuple #[.agg (arr .u8 z16), .int .i64 2]) (by simp [results, Try.results44, hl, asAddr]) rfl ⟨rfl, hb2⟩
end Go.Proofs.Ytblnclooobggnaa.Mc

namespace Go.Proofs.Ytblnclooobggnaa.Se
open Go.RowKit Go.Proofs.Ytblnclooobggnaa.L Go.Proofs.Ytblnclooobggnaa.N Go.Proofs.Ytblnclooobggnaa.A Go.Proofs.YtblnclooobggnaaW.PrintWords

abbrev tSe : TypeId := 89
def seL (side : Nat) (p : Nat) (km : List Nat) (nx : Nat) : List Value := [.int .i64 (side : Int), .pointer (some ⟨p, 0, none⟩)] ++ (km.map fun (x : Nat) => Value.int .u8 (x : Int)) ++ [.int .u64 (nx : Int)]
/-- a sealer in memory -/
structure SE (g p c : Nat) (side : Nat) (kh km : List Nat) (nx tn : Nat) (w : World) : Prop where
  blk : w.heap[g]? = some (.cells (seL side p km nx).toArray tSe (0, 0))
  st : ST p c kh tn w
  len : km.length = 16
section
variable {g p c side nx tn : Nat} {kh km : List Nat} {w w1 : World}
theorem SE.lt (h : SE g p c side kh km nx tn w) : g < w.heap.size := blk_lt h.blk
theorem SE.c0 (h : SE g p c side kh km nx tn w) : w.cell? ⟨g, 0, none⟩ = some (.int .i64 (side : Int)) := by rw [blk_cell h.blk]; rfl
theorem SE.c1 (h : SE g p c side kh km nx tn w) : w.cell? ⟨g, 1, none⟩ = some (.pointer (some ⟨p, 0, none⟩)) := by rw [blk_cell h.blk]; rfl
theorem SE.cn (h : SE g p c side kh km nx tn w) : w.cell? ⟨g, 18, none⟩ = some (.int .u64 (nx : Int)) := by
  have hl := h.len
  rw [blk_cell h.blk]
  show (seL side p km nx).toArray[18]? = _
  unfold seL
  rw [List.getElem?_toArray, List.getElem?_append_right (by simp [hl])]
  simp [hl]
theorem SE.fz (h : SE g p c side kh km nx tn w) (i : Nat) : w.frozen? ⟨g, i, none⟩ = false := blk_frozen h.blk i
theorem SE.keep (h : SE g p c side kh km nx tn w) (hb : Below w.heap.size w w1) : SE g p c side kh km nx tn w1 := ⟨blk_below h.blk hb, h.st.below hb, h.len⟩
end
set_option maxRecDepth 100000 in
theorem made_any (g p : Nat) (w : World) (h : w.cell? ⟨g, 1, none⟩ = some (.pointer (some ⟨p, 0, none⟩))) : Calls Try.prog 46 #[.pointer (some ⟨g, 0, none⟩)] w fun e w' => e = .returned (.bool true) ∧ w' = w := by
  go_enter Try.func46, Try.ntmps46
  go_wp2_with fail
  go_ret
  exact ⟨rfl, rfl⟩
set_option maxRecDepth 100000 in
theorem load64 (g i : Nat) (x : Int) (w : World) (h : w.cell? ⟨g, i, none⟩ = some (.int .u64 x)) : Calls Try.prog 50 #[.pointer (some ⟨g, i, none⟩)] w fun e w' => e = .returned (.int .u64 x) ∧ w' = w := by
  have hl := run_call_load (P := Try.prog) Try.func67 (by kernel_rfl) (by kernel_rfl) (by kernel_rfl) .u64 (by kernel_rfl) h
  go_enter Try.func50, Try.ntmps50
  go_wp2_with fail
  go_ret
  exact ⟨rfl, rfl⟩
set_option maxRecDepth 100000 in
theorem store64 (g i : Nat) (x y : Int) (w : World) (h : w.cell? ⟨g, i, none⟩ = some (.int .u64 x)) (hz : w.frozen? ⟨g, i, none⟩ = false) : Calls Try.prog 45 #[.pointer (some ⟨g, i, none⟩), .int .u64 y] w fun e w' => e = .returned (.tuple #[]) ∧ w' = w.setCell ⟨g, i, none⟩ (.int .u64 y) := by
  have hst := run_call_store (P := Try.prog) Try.func62 (by kernel_rfl) (by kernel_rfl) (by kernel_rfl) (by kernel_rfl) (k := .u64) (y := y) h hz
  go_enter Try.func45, Try.ntmps45
  go_wp2_with fail
  exact ⟨rfl, _, results_none rfl _ _ _, rfl, rfl⟩
set_option maxRecDepth 100000 in
theorem add64 (g i : Nat) (x : Int) (w : World) (h : w.cell? ⟨g, i, none⟩ = some (.int .u64 x)) (hz : w.frozen? ⟨g, i, none⟩ = false) (h0 : 0 ≤ x ∧ x < 18446744073709551615) : Calls Try.prog 48 #[.pointer (some ⟨g, i, none⟩), .int .u64 1] w fun e w' => e = .returned (.int .u64 (x + 1)) ∧ w' = w.setCell ⟨g, i, none⟩ (.int .u64 (x + 1)) := by
  have hadd := run_call_add (P := Try.prog) Try.func63 (by kernel_rfl) (by kernel_rfl) (by kernel_rfl) .u64 (by kernel_rfl) (y := 1) (s := x + 1) h hz (by
    have : IntKind.u64.wrap (x + 1) = x + 1 := IntWalk.u64_in _ (by omega)
    simp [go_sem, this])
  go_enter Try.func48, Try.ntmps48
  go_wp2_with fail
  go_ret
  exact ⟨rfl, rfl⟩
set_option maxRecDepth 100000 in
theorem next_any (g p nx : Nat) (w : World) (h : w.cell? ⟨g, 1, none⟩ = some (.pointer (some ⟨p, 0, none⟩))) (hn : w.cell? ⟨g, 18, none⟩ = some (.int .u64 (nx : Int))) (hx : nx ≤ 9223372036854775807) :
    Calls Try.prog 30 #[.pointer (some ⟨g, 0, none⟩)] w fun e w' => e = .returned (.int .u64 (nx : Int)) ∧ w' = w := by
  have z1 : ¬ (9223372036854775807 : Int) < (nx : Int) := by omega
  have z2 : decide ((9223372036854775807 : Int) < (nx : Int)) = false := decide_eq_false z1
  go_enter Try.func30, Try.ntmps30
  go_wp2_with fail
  refine (made_any g p w h).mono ?_
  rintro e w1 ⟨rfl, rfl⟩
  go_wp2_with fail
  refine (load64 g 18 nx _ hn).mono ?_
  rintro e w2 ⟨rfl, rfl⟩
  go_wp2_with fail
  refine (load64 g 18 nx _ hn).mono ?_
  rintro e w3 ⟨rfl, rfl⟩
  go_wp2_with fail
  go_ret
  exact ⟨rfl, rfl⟩
/-- a side's number -/
def numN (side n : Nat) : Nat := side * 9223372036854775808 + n
set_option maxRecDepth 100000 in
theorem number_any (side n : Nat) (w : World) (hs : side = 0 ∨ side = 1) (hn : n ≤ 9223372036854775807) :
    Calls Try.prog 47 #[.int .i64 (side : Int), .int .u64 (n : Int)] w fun e w' => e = .returned (.int .u64 (numN side n : Nat)) ∧ w' = w := by
  have h1 : bits .or .u64 9223372036854775808 (n : Int) = 9223372036854775808 + (n : Int) := or64 63 (x := 9223372036854775808) (y := (n : Int)) (by decide) (by decide) (by decide) (by omega) (by omega) (by omega)
  have h0 : bits .or .u64 0 (n : Int) = (n : Int) := (or64 63 (x := 0) (y := (n : Int)) (by decide) (by decide) (by decide) (by omega) (by omega) (by omega)).trans (by omega)
  rcases hs with rfl | rfl
  · go_enter Try.func47, Try.ntmps47
    go_wp2_with fail
    go_ret
    exact ⟨by simp [numN], rfl⟩
  · go_enter Try.func47, Try.ntmps47
    go_wp2_with fail
    go_ret
    exact ⟨by simp [numN], rfl⟩
end Go.Proofs.Ytblnclooobggnaa.Se

namespace Go.Proofs.Ytblnclooobggnaa.Se
open Go.RowKit Go.Proofs.Ytblnclooobggnaa.L Go.Proofs.Ytblnclooobggnaa.N Go.Proofs.Ytblnclooobggnaa.A Go.Proofs.Ytblnclooobggnaa.Mc Go.Proofs.YtblnclooobggnaaW.PrintWords

/-- the keys of a secret: what hides, what marks -/
def hideK (secret : List Nat) : List Nat := drvN secret [104, 105, 100, 101] 0
def markK (secret : List Nat) : List Nat := drvN secret [109, 97, 114, 107] 0
theorem quiet_build {P : Program} {ops : Array Oper} {C : World → Prop} {K : Act → Prop} {a : Act} {o : Oper} {rest : List Oper} (t : TypeId) (parts : Array (Nat × Operand)) (ps : Array (Nat × Value)) (v : Value) (hgd : o.guard = none) (ho : o.op = .build t parts) (hp : (parts.map fun (i, x) => (i, a.eval x)) = ps)
    (hr : ∀ w, (Instr.build t ps).run P w = .ok v w) (h : wpQuiet P ops C K rest (a.put o.dst v)) : wpQuiet P ops C K (o :: rest) a := by
  refine wpQuiet_step fun K' hK => ?_
  rw [if_pos (by simp [Region.wanted, hgd])]
  refine ⟨v, fun w hw => ?_, hK _ h⟩
  unfold Oper.quietAt
  have he : (execOp a.eval o).run P w = .ok (.value v) w := by
    simp only [execOp, ho, hp, Sem.run_bind, Sem.run_pure, hr w, Result.andThen]
  rw [he]
  exact ⟨rfl, rfl⟩
theorem build_seal {km : List Nat} (h : km.length = 16) (side p : Nat) (W : World) : (Instr.build tSe #[(0, .int .i64 (side : Int)), (1, .pointer (some ⟨p, 0, none⟩)), (2, .agg (arr .u8 km))]).run Try.prog W = .ok (.agg (seL side p km 0).toArray) W := by
  obtain ⟨k0, k1, k2, k3, k4, k5, k6, k7, k8, k9, k10, k11, k12, k13, k14, k15, rfl⟩ := A.len16 h
  kernel_rfl
theorem grown_cell (w : World) (a : Addr) (u : Value) : w.grownBy (w.setCell a u) (some a.block) :=
  ⟨rfl, rfl, rfl, by simp, fun i _ hne => Below.heap_setCell w a u i (fun e => hne (by rw [e]))⟩
theorem ST.other {p c g : Nat} {key : List Nat} {tn : Nat} {w w1 : World} (h : ST p c key tn w) (hg : w.grownBy w1 (some g)) (h1 : g ≠ p) (h2 : g ≠ c) : ST p c key tn w1 :=
  ⟨(hg.block p h.lt (fun e => h1 (by injection e with e; exact e.symm))).trans h.sp, h.cu.grown' hg (Ne.symm h2)⟩
theorem seal_set {km : List Nat} (h : km.length = 16) (side p n m : Nat) : (seL side p km n).toArray.setIfInBounds 18 (.int .u64 (m : Int)) = (seL side p km m).toArray := by
  obtain ⟨k0, k1, k2, k3, k4, k5, k6, k7, k8, k9, k10, k11, k12, k13, k14, k15, rfl⟩ := A.len16 h
  rfl
theorem SE.num {g p c side nx tn : Nat} {kh km : List Nat} {w : World} (h : SE g p c side kh km nx tn w) (h1 : g ≠ p) (h2 : g ≠ c) (m : Nat) : SE g p c side kh km m tn (w.setCell ⟨g, 18, none⟩ (.int .u64 (m : Int))) :=
  ⟨(blk_set h.blk 18 _).trans (by rw [seal_set h.len]), ST.other h.st (grown_cell w ⟨g, 18, none⟩ _) h1 h2, h.len⟩
set_option maxRecDepth 100000 in
set_option maxHeartbeats 3200000 in
theorem newseal_any (secret : List Nat) (A : Option Addr) (c side : Nat) (w : World) (hC : (Kd.int .u8).C w A secret.length (nat secret)) (hc : secret.length ≤ c) (hk : ∀ x ∈ secret, x < 256) (hl : secret.length ≤ 70368744177664) (h0 : 0 < secret.length) (hs : side = 0 ∨ side = 1) :
    Calls Try.prog 28 #[.slice A secret.length c, .int .i64 (side : Int)] w fun e w' => ∃ g p q, e = .returned (.tuple #[.pointer (some ⟨g, 0, none⟩), .int .i64 0]) ∧ w.heap.size ≤ g ∧ w.heap.size ≤ p ∧ w.heap.size ≤ q ∧ (g ≠ p ∧ g ≠ q) ∧ SE g p q side (hideK secret) (markK secret) 1 0 w' ∧ Below w.heap.size w w' := by
  have HC := Lib.hid hC
  have HD := Lib.hid (fun W (hb : Below w.heap.size w W) => derive_ok secret A c ⟨#[104, 105, 100, 101]⟩ 0 W (Kd.C_below hC hb) hc hk hl h0 (by decide) (by decide))
  have HM := Lib.hid (fun W (hb : Below w.heap.size w W) => derive_ok secret A c ⟨#[109, 97, 114, 107]⟩ 0 W (Kd.C_below hC hb) hc hk hl h0 (by decide) (by decide))
  have e1 : drvN secret (sbN ⟨#[104, 105, 100, 101]⟩) 0 = hideK secret := rfl
  have e2 : drvN secret (sbN ⟨#[109, 97, 114, 107]⟩) 0 = markK secret := rfl
  rw [e1] at HD
  rw [e2] at HM
  clear e1 e2
  have hPl : (hideK secret).length = 16 := drvN_len _ _ _
  have hRl : (markK secret).length = 16 := drvN_len _ _ _
  generalize hideK secret = P at *
  generalize markK secret = R at *
  have HPl := Lib.hid hPl
  have HRl := Lib.hid hRl
  have HSd := Lib.hid hs
  have zs : ((side : Int) == 0) = decide (side = 0) := by
    rcases hs with rfl | rfl <;> rfl
  clear hC hc hk hl h0 hPl hRl
  have HN := Lib.hid (fun W => newctr_any P W HPl.out)
  rcases hs with rfl | rfl
  · go_enter Try.func28, Try.ntmps28
    go_wp2_with fail
    refine (HD.out w (Below.refl _ _)).mono ?_
    rintro e w1 ⟨rfl, hb1⟩
    have HB1 := Lib.hid hb1
    clear hb1
    go_wp2_with ((refine store_ab .u8 w1.heap.size Mc.z16 P rfl rfl rfl rfl rfl (AB.mk w1 .u8 Mc.tKey Mc.z16) (by rw [HPl.out]; exact Mc.info_key) (by rw [HPl.out]; rfl) ?_; intro w2 h2 hg2; (have HP2 := Lib.hid h2); (have HB2 := Lib.hid (HB1.out.trans ((below_new hg2).1.mono HB1.out.size))); clear h2 hg2))
    refine (HM.out w2 HB2.out).mono ?_
    rintro e w3 ⟨rfl, hb3⟩
    have HB3 := Lib.hid (HB2.out.trans (hb3.mono HB2.out.size))
    have HP3 := Lib.hid (HP2.out.below HP2.out.lt hb3)
    clear hb3
    go_wp2_with (refine store_ab .u8 w3.heap.size Mc.z16 R rfl rfl rfl rfl rfl (AB.mk w3 .u8 Mc.tKey Mc.z16) (by rw [HRl.out]; exact Mc.info_key) (by rw [HRl.out]; rfl) ?_; intro w4 h4 hg4; (have HR4 := Lib.hid h4); (have HP4 := Lib.hid (HP3.out.below HP3.out.lt (below_new hg4).1)); (have HB4 := Lib.hid (HB3.out.trans ((below_new hg4).1.mono HB3.out.size))); clear h4 hg4)
    have HLp := Lib.hid (show w1.heap.size < w4.heap.size from HP4.out.lt)
    have HLr := Lib.hid (show w3.heap.size < w4.heap.size from HR4.out.lt)
    have HL13 := Lib.hid (show w.heap.size ≤ w1.heap.size ∧ w.heap.size ≤ w3.heap.size from ⟨HB1.out.size, HB3.out.size⟩)
    go_wp2_with fail
    refine Q.wp_region_segs none [([0, 1, 3], some 2), ([4], some 5), ([6], none)] (by kernel_rfl) (by kernel_rfl) (by kernel_rfl) (by kernel_rfl) ?_
    dsimp only [Q.wpSegs, Q.picks, Q.pick]
    repeat (go_big_quiet_step (fail))
    refine quiet_load Mc.tKey (.tmp 6) (.pointer (some ⟨w1.heap.size, 0, none⟩)) (.agg (arr .u8 P)) rfl rfl rfl (HP4.out.drew.loadQ Try.underlying27 (by rw [HPl.out]; exact Mc.info_key)) ?_
    repeat (go_big_quiet_step (fail))
    refine quiet_load Mc.tKey (.tmp 8) (.pointer (some ⟨w3.heap.size, 0, none⟩)) (.agg (arr .u8 R)) rfl rfl rfl (HR4.out.drew.loadQ Try.underlying27 (by rw [HRl.out]; exact Mc.info_key)) ?_
    repeat (go_big_quiet_step (fail))
    refine wpQuiet_nil ?_
    go_wp2_with fail
    refine (HN.out _).mono ?_
    rintro e w5 ⟨p, q, rfl, hp, hq, hst, hb⟩
    have HST := Lib.hid hst
    have HB5 := Lib.hid hb
    have HQs := Lib.hid (show w4.heap.size ≤ p ∧ w4.heap.size ≤ q from ⟨hq, hp⟩)
    clear hp hq hst hb
    go_wp2_with fail
    refine Q.ev_keep HB5.out (Nat.le_refl _) ?_
    refine quiet_build tSe #[(0, .tmp 32), (1, .tmp 34), (2, .tmp 35)] #[(0, .int .i64 ((0 : Nat) : Int)), (1, .pointer (some ⟨p, 0, none⟩)), (2, .agg (arr .u8 R))] (.agg (seL 0 p R 0).toArray) rfl rfl (by simp only [List.map_toArray, List.map_cons, List.map_nil]; rfl) (fun W => build_seal HRl.out 0 p W) ?_
    refine wpQuiet_nil ?_
    go_wp2_with fail
    refine Q.ev_keep ((Below.refl _ _).alloc (Nat.le_refl _) _) HB5.out.size ?_
    repeat (go_big_quiet_step (fail))
    refine wpQuiet_nil ?_
    refine NoPanic.normal ?_
    go_wp2_with fail
    refine calls_at fun W6 hW6 => ?_
    have hblk : W6.heap[w5.heap.size]? = some (.cells (seL 0 p R 0).toArray tSe (0, 0)) := by rw [hW6]; exact heap_alloc_new w5 _
    have hb6 : Below w5.heap.size w5 W6 := by rw [hW6]; exact (Below.refl _ _).alloc (Nat.le_refl _) _
    have hpl := HST.out.lt
    have hql := HST.out.cu.lt
    have HS6 := Lib.hid (show SE w5.heap.size p q 0 P R 0 0 W6 from ⟨hblk, HST.out.below hb6, HRl.out⟩)
    have HNe := Lib.hid (show w5.heap.size ≠ p ∧ w5.heap.size ≠ q from ⟨by omega, by omega⟩)
    have h45 : Below w4.heap.size w4 w5 := (Below.refl _ _).drew.trans HB5.out
    have HB6 := Lib.hid ((HB4.out.trans (h45.mono HB4.out.size)).trans (hb6.mono (Nat.le_trans HB4.out.size h45.size)))
    have HSz := Lib.hid (show w.heap.size ≤ w5.heap.size ∧ w.heap.size ≤ p ∧ w.heap.size ≤ q from ⟨Nat.le_trans HB4.out.size h45.size, Nat.le_trans HB4.out.size HQs.out.1, Nat.le_trans HB4.out.size HQs.out.2⟩)
    clear hW6 hblk hb6 hpl hql h45
    refine (store64 w5.heap.size 18 0 1 W6 HS6.out.cn (HS6.out.fz 18)).mono ?_
    rintro e w7 ⟨rfl, rfl⟩
    go_wp2_with fail
    go_ret2
    exact ⟨_, p, q, rfl, HSz.out.1, HSz.out.2.1, HSz.out.2.2, HNe.out, SE.num HS6.out HNe.out.1 HNe.out.2 1, HB6.out.setCell (p := ⟨w5.heap.size, 18, none⟩) HSz.out.1 _⟩
  · go_enter Try.func28, Try.ntmps28
    go_wp2_with fail
    refine (HD.out w (Below.refl _ _)).mono ?_
    rintro e w1 ⟨rfl, hb1⟩
    have HB1 := Lib.hid hb1
    clear hb1
    go_wp2_with ((refine store_ab .u8 w1.heap.size Mc.z16 P rfl rfl rfl rfl rfl (AB.mk w1 .u8 Mc.tKey Mc.z16) (by rw [HPl.out]; exact Mc.info_key) (by rw [HPl.out]; rfl) ?_; intro w2 h2 hg2; (have HP2 := Lib.hid h2); (have HB2 := Lib.hid (HB1.out.trans ((below_new hg2).1.mono HB1.out.size))); clear h2 hg2))
    refine (HM.out w2 HB2.out).mono ?_
    rintro e w3 ⟨rfl, hb3⟩
    have HB3 := Lib.hid (HB2.out.trans (hb3.mono HB2.out.size))
    have HP3 := Lib.hid (HP2.out.below HP2.out.lt hb3)
    clear hb3
    go_wp2_with (refine store_ab .u8 w3.heap.size Mc.z16 R rfl rfl rfl rfl rfl (AB.mk w3 .u8 Mc.tKey Mc.z16) (by rw [HRl.out]; exact Mc.info_key) (by rw [HRl.out]; rfl) ?_; intro w4 h4 hg4; (have HR4 := Lib.hid h4); (have HP4 := Lib.hid (HP3.out.below HP3.out.lt (below_new hg4).1)); (have HB4 := Lib.hid (HB3.out.trans ((below_new hg4).1.mono HB3.out.size))); clear h4 hg4)
    have HLp := Lib.hid (show w1.heap.size < w4.heap.size from HP4.out.lt)
    have HLr := Lib.hid (show w3.heap.size < w4.heap.size from HR4.out.lt)
    have HL13 := Lib.hid (show w.heap.size ≤ w1.heap.size ∧ w.heap.size ≤ w3.heap.size from ⟨HB1.out.size, HB3.out.size⟩)
    go_wp2_with fail
    refine Q.wp_region_segs none [([0, 1, 3], some 2), ([4], some 5), ([6], none)] (by kernel_rfl) (by kernel_rfl) (by kernel_rfl) (by kernel_rfl) ?_
    dsimp only [Q.wpSegs, Q.picks, Q.pick]
    repeat (go_big_quiet_step (fail))
    refine quiet_load Mc.tKey (.tmp 6) (.pointer (some ⟨w1.heap.size, 0, none⟩)) (.agg (arr .u8 P)) rfl rfl rfl (HP4.out.drew.loadQ Try.underlying27 (by rw [HPl.out]; exact Mc.info_key)) ?_
    repeat (go_big_quiet_step (fail))
    refine quiet_load Mc.tKey (.tmp 8) (.pointer (some ⟨w3.heap.size, 0, none⟩)) (.agg (arr .u8 R)) rfl rfl rfl (HR4.out.drew.loadQ Try.underlying27 (by rw [HRl.out]; exact Mc.info_key)) ?_
    repeat (go_big_quiet_step (fail))
    refine wpQuiet_nil ?_
    go_wp2_with fail
    refine (HN.out _).mono ?_
    rintro e w5 ⟨p, q, rfl, hp, hq, hst, hb⟩
    have HST := Lib.hid hst
    have HB5 := Lib.hid hb
    have HQs := Lib.hid (show w4.heap.size ≤ p ∧ w4.heap.size ≤ q from ⟨hq, hp⟩)
    clear hp hq hst hb
    go_wp2_with fail
    refine Q.ev_keep HB5.out (Nat.le_refl _) ?_
    refine quiet_build tSe #[(0, .tmp 32), (1, .tmp 34), (2, .tmp 35)] #[(0, .int .i64 ((1 : Nat) : Int)), (1, .pointer (some ⟨p, 0, none⟩)), (2, .agg (arr .u8 R))] (.agg (seL 1 p R 0).toArray) rfl rfl (by simp only [List.map_toArray, List.map_cons, List.map_nil]; rfl) (fun W => build_seal HRl.out 1 p W) ?_
    refine wpQuiet_nil ?_
    go_wp2_with fail
    refine Q.ev_keep ((Below.refl _ _).alloc (Nat.le_refl _) _) HB5.out.size ?_
    repeat (go_big_quiet_step (fail))
    refine wpQuiet_nil ?_
    refine NoPanic.normal ?_
    go_wp2_with fail
    refine calls_at fun W6 hW6 => ?_
    have hblk : W6.heap[w5.heap.size]? = some (.cells (seL 1 p R 0).toArray tSe (0, 0)) := by rw [hW6]; exact heap_alloc_new w5 _
    have hb6 : Below w5.heap.size w5 W6 := by rw [hW6]; exact (Below.refl _ _).alloc (Nat.le_refl _) _
    have hpl := HST.out.lt
    have hql := HST.out.cu.lt
    have HS6 := Lib.hid (show SE w5.heap.size p q 1 P R 0 0 W6 from ⟨hblk, HST.out.below hb6, HRl.out⟩)
    have HNe := Lib.hid (show w5.heap.size ≠ p ∧ w5.heap.size ≠ q from ⟨by omega, by omega⟩)
    have h45 : Below w4.heap.size w4 w5 := (Below.refl _ _).drew.trans HB5.out
    have HB6 := Lib.hid ((HB4.out.trans (h45.mono HB4.out.size)).trans (hb6.mono (Nat.le_trans HB4.out.size h45.size)))
    have HSz := Lib.hid (show w.heap.size ≤ w5.heap.size ∧ w.heap.size ≤ p ∧ w.heap.size ≤ q from ⟨Nat.le_trans HB4.out.size h45.size, Nat.le_trans HB4.out.size HQs.out.1, Nat.le_trans HB4.out.size HQs.out.2⟩)
    clear hW6 hblk hb6 hpl hql h45
    refine (store64 w5.heap.size 18 0 1 W6 HS6.out.cn (HS6.out.fz 18)).mono ?_
    rintro e w7 ⟨rfl, rfl⟩
    go_wp2_with fail
    go_ret2
    exact ⟨_, p, q, rfl, HSz.out.1, HSz.out.2.1, HSz.out.2.2, HNe.out, SE.num HS6.out HNe.out.1 HNe.out.2 1, HB6.out.setCell (p := ⟨w5.heap.size, 18, none⟩) HSz.out.1 _⟩
end Go.Proofs.Ytblnclooobggnaa.Se

namespace Go.Proofs.Ytblnclooobggnaa.Qi
open Go.RowKit Go.Proofs.Ytblnclooobggnaa.L Go.Proofs.YtblnclooobggnaaW.PrintWords
open Go.Proofs.Ytblnclooobggnaa.Q (qk value_of run_of_quietAt pick picks pick_get)
open Go.Proofs.Ytblnclooobggnaa.Qs (EvQ ev_lets ev_wp quietB segB segN held_mono)

structure SW (S : World → Prop) where
  w : World
  h : S w
def InS (S : World → Prop) (w' : World) : Prop := ∃ n : SW S, w' = n.w
theorem InS.of {S : World → Prop} {w : World} (h : S w) : InS S w := ⟨⟨w, h⟩, rfl⟩
def wpSegs (P : Program) (l : List Oper) (Q : Exit → Act → World → Prop) (S : World → Prop) : List (List Nat × Option Nat) → Act → World → Prop
  | [], a, w => Q .normal a w
  | (is, none) :: r, a, w => wpQuiet P l.toArray (fun w' => ∃ n : SW S, w' = n.w) (fun a' => wpSegs P l Q S r a' w) (picks l is) a
  | (is, some k) :: r, a, w => wpQuiet P l.toArray (fun w' => ∃ n : SW S, w' = n.w) (fun a' => wpList P l.toArray (EvQ S (wpSegs P l Q S r) Q) [pick l k] a' w) (picks l is) a
/-- an event's end -/
theorem ev {S : World → Prop} {K : Act → World → Prop} {Q : Exit → Act → World → Prop} {a : Act} {w : World} (h : S w) (k : K a w) : EvQ S K Q .normal a w := ⟨h, k⟩
section
variable {P : Program} {l : List Oper} {Q : Exit → Act → World → Prop} {md : Region.Mode}
theorem quiet_sound (hs : Region.noSelect l.toArray = true) (hQ : ∀ c a d v w, Q (.panic c) (a.put d v) w → Q (.panic c) a w) {S : World → Prop} {w : World} (hS : S w) {K : Act → Prop} {n : Nat} :
    ∀ (is : List Nat) (b b' : Array Bool) (a : Act), quietB md l is b = some b' → (∀ a', K a' → wpAnyH P md l.toArray Q (InS S) n b' a' w) → wpQuiet P l.toArray (InS S) K (picks l is) a → wpAnyH P md l.toArray Q (InS S) (is.length + n) b a w
  | [], b, b', a, hb, hk, h => by
    injection hb with hb
    subst hb
    rw [List.length_nil, Nat.zero_add]
    exact hk a h
  | i :: r, b, b', a, hb, hk, h => by
    unfold quietB at hb
    split at hb
    · rename_i hc
      simp only [Bool.and_eq_true, decide_eq_true_eq] at hc
      obtain ⟨⟨⟨h1, h2⟩, h3⟩, h4⟩ := hc
      have hi : l.toArray[i]? = some (pick l i) := by simpa using pick_get h1
      rw [List.length_cons, show r.length + 1 + n = (r.length + n) + 1 from by omega]
      have h' : if Region.wanted (pick l i) (yielded l.toArray a.tmps) then (pick l i).quiet P a (InS S) (wpQuiet P l.toArray (InS S) K (picks l r)) else wpQuiet P l.toArray (InS S) K (picks l r) (a.put (pick l i).dst undef) := h
      by_cases hw : Region.wanted (pick l i) (yielded l.toArray a.tmps) = true
      · rw [if_pos hw] at h'
        obtain ⟨v, hv, hn⟩ := h'
        exact wpAnyH_take hi hs h3 h4 (fun c a w => hQ c a _ _ w) (.inl ⟨hw, fun w' hw' => run_of_quietAt h2 (hv w' hw')⟩) (InS.of hS) (quiet_sound hs hQ hS r _ b' _ hb hk hn)
      · rw [if_neg hw] at h'
        exact wpAnyH_take hi hs h3 h4 (fun c a w => hQ c a _ _ w) (.inr ⟨by simpa using hw, rfl⟩) (InS.of hS) (quiet_sound hs hQ hS r _ b' _ hb hk h')
    · cases hb

theorem segs_sound (hs : Region.noSelect l.toArray = true) (hQ : ∀ c a d v w, Q (.panic c) (a.put d v) w → Q (.panic c) a w) {S : World → Prop} :
    ∀ (segs : List (List Nat × Option Nat)) (b : Array Bool) (a : Act) (w : World), S w → segB md l segs b = true → wpSegs P l Q S segs a w → wpAnyH P md l.toArray Q (InS S) (segN segs) b a w
  | [], b, a, w, _, hb, h => ⟨by simpa [segB] using hb, h⟩
  | (is, none) :: r, b, a, w, hS, hb, h => by
    unfold segB at hb
    split at hb
    · rename_i b' hq
      exact quiet_sound hs hQ hS is b b' a hq (fun a' ha' => segs_sound hs hQ r b' a' w hS hb ha') h
    · cases hb
  | (is, some k) :: r, b, a, w, hS, hb, h => by
    unfold segB at hb
    split at hb
    · rename_i b' hq
      simp only [Bool.and_eq_true, decide_eq_true_eq, beq_iff_eq] at hb
      obtain ⟨⟨h1, h2⟩, h3⟩ := hb
      refine quiet_sound (n := segN r + 1) hs hQ hS is b b' a hq (fun a' ha' => ?_) h
      refine wpAnyH_all h2 (by simp) (fun i hi => ?_)
      obtain rfl : i = k := by simpa using hi
      have hi' : l.toArray[i]? = some (pick l i) := by simpa using pick_get h1
      have key : ∀ a'' w'', (S w'' ∧ wpSegs P l Q S r a'' w'') → InS S w'' ∧ wpAnyH P md l.toArray Q (InS S) (segN r) (b'.setIfInBounds i true) a'' w'' := fun a'' w'' hh =>
        ⟨InS.of hh.1, segs_sound hs hQ r _ a'' w'' hh.1 h3 hh.2⟩
      unfold wpOp
      simp only [hi']
      simp only [wpList] at ha'
      by_cases hw : Region.wanted (pick l i) (yielded l.toArray a'.tmps) = true
      · rw [if_pos hw] at ha' ⊢
        rcases ha' with ha' | ⟨h4, h5⟩
        · exact .inl (ev_wp (fun a'' w'' hh => key a'' w'' hh) ha')
        · exact .inr ⟨h4, ev_lets h5⟩
      · rw [if_neg hw] at ha' ⊢
        exact key _ _ ha'
    · cases hb
/-- A REGION THAT DRAWS ITS ORDER, by its stretches, under a predicate on worlds. -/
theorem wp_region_segs {id : Nat} {a : Act} {w : World} (S : World → Prop) (hS : S w.drew) (segs : List (List Nat × Option Nat)) (hm : P.follows .mixedOrders = true) (hs : Region.noSelect l.toArray = true)
    (hb : segB .any l segs (Array.replicate l.length false) = true) (hn : segN segs = l.length)
    (h : wpSegs P l (NoPanic Q) S segs a w.drew) : (Code.region id l.toArray true).wp P Q a w := by
  refine wp_region_noPanic (wp_region_held (S := InS S) hm ?_)
  have := segs_sound hs (Q := NoPanic Q) (fun _ _ _ _ _ h => h) segs _ a w.drew hS hb h
  rw [hn] at this
  simpa using this
end
end Go.Proofs.Ytblnclooobggnaa.Qi

namespace Go.Proofs.Ytblnclooobggnaa.Se
open Go.RowKit Go.Proofs.Ytblnclooobggnaa.L Go.Proofs.Ytblnclooobggnaa.N Go.Proofs.Ytblnclooobggnaa.A Go.Proofs.Ytblnclooobggnaa.Mc Go.Proofs.Ytblnclooobggnaa.H Go.Proofs.YtblnclooobggnaaW.PrintWords

theorem make_bc (n c : Nat) (W : World) (h1 : n ≤ c) (h2 : c ≤ 1000) : (Instr.makeSlice 41 (.int .i64 (n : Int)) (.int .i64 (c : Int))).run Try.prog W = .ok (.slice (some ⟨W.heap.size, 0, none⟩) n c) (W.alloc (.cells (arr .u8 (List.replicate c 0)) 5)) := by
  obtain ⟨i0, hi, hzz⟩ := Option.map_eq_some_iff.1 info_u8
  simp only [Prod.mk.injEq] at hzz
  obtain ⟨hz0, hz1, hz2⟩ := hzz
  have := run_make (P := Try.prog) (w := W) 41 5 i0 (.int .u8 0) Try.underlying41 hi hz0 .i64 .i64 (n : Int) (c : Int) (by omega) (by omega) (by rw [hz2]; omega) (by omega)
  rw [this, hz1, Int.toNat_natCast, Int.toNat_natCast, Nat.mul_one]
  rw [← made_arr]
  rfl
theorem head_step {N k : Nat} {Z : List Nat} (h : k < 8) : (fl (be8 N) k ++ Z).set k ((be8 N).getD k 0) = fl (be8 N) (k + 1) ++ Z := by
  have l1 : (fl (be8 N) k).length = 8 := by rw [fl_length _ (by rw [be8_len]; omega), be8_len]
  rw [List.set_append_left _ _ (by omega), fl_step (by rw [be8_len]; exact h)]
theorem ownN {t : TypeId} {b B n : Nat} {l : List Nat} {w : World} (h : AB .u8 t b l w) (hB : B ≤ b) (hn : n ≤ l.length) (hl : l.length ≤ maxLen) : (Kd.int .u8).R t w B (fun _ => True) (.slice (some ⟨b, 0, none⟩) n l.length) (nat (l.take n)) := by
  have h1 := Kd.R_take (h.own hB hl) (m := n) (by rw [nat_length]; exact hn)
  rwa [show (nat l).take n = nat (l.take n) from by simp [nat, List.map_take]] at h1
/-- bytes that are new -/
def RO (l : List Nat) (base : Nat) (v : Value) (w : World) : Prop := ∃ A c, v = .slice A l.length c ∧ l.length ≤ c ∧ (Kd.int .u8).C w A l.length (nat l) ∧ ∀ ad, A = some ad → base ≤ ad.block
theorem R_block {w : World} {B : Nat} {A : Option Addr} {n c : Nat} {l : List Int} (h : (Kd.int .u8).R 5 w B (fun _ => True) (.slice A n c) l) : ∀ ad, A = some ad → B ≤ ad.block := fun ad e => Kd.R_base h ad.block (by rw [e]; rfl)
theorem key_all (b : Nat) (W : World) : (Instr.sliceAt 27 (.pointer (some ⟨b, 2, none⟩)) none none none).run Try.prog W = .ok (.slice (some ⟨b, 2, none⟩) 16 16) W := by kernel_rfl
theorem sum_cut (b : Nat) (W : World) : (Instr.sliceAt 107 (.pointer (some ⟨b, 0, none⟩)) none (some (.int .i64 16)) none).run Try.prog W = .ok (.slice (some ⟨b, 0, none⟩) 16 32) W := by kernel_rfl
theorem SE.key {g p c side nx tn : Nat} {kh km : List Nat} {w : World} (h : SE g p c side kh km nx tn w) : (Kd.int .u8).C w (some ⟨g, 2, none⟩) km.length (nat km) := by
  refine Kd.C_of_reads (d := (0 : Int)) ⟨nat_length km, by rw [h.len]; decide, fun _ => ⟨_, rfl, fun j hj => ?_⟩⟩
  rw [add_at, nat_get hj, blk_cell h.blk]
  show (seL side p km nx).toArray[2 + j]? = _
  unfold seL
  rw [List.getElem?_toArray, List.getElem?_append_left (by simp; omega), List.getElem?_append_right (by simp)]
  simp [List.getD_eq_getElem?_getD, hj]
theorem SE.grow {g p c b side nx tn : Nat} {kh km : List Nat} {w w1 : World} (h : SE g p c side kh km nx tn w) (hg : w.grownBy w1 (some b)) (h1 : g ≠ b) (h2 : p ≠ b) (h3 : c ≠ b) : SE g p c side kh km nx tn w1 :=
  ⟨(hg.block g h.lt (fun e => h1 (by injection e))).trans h.blk, ST.other h.st hg (Ne.symm h2) (Ne.symm h3), h.len⟩
theorem SE.growR {g p c side nx tn : Nat} {row : Option Nat} {kh km : List Nat} {w w1 : World} (h : SE g p c side kh km nx tn w) (hg : w.grownBy w1 row) (h1 : ∀ k, row = some k → g ≠ k ∧ p ≠ k ∧ c ≠ k) : SE g p c side kh km nx tn w1 := by
  cases row with
  | some b => exact h.grow hg (h1 b rfl).1 (h1 b rfl).2.1 (h1 b rfl).2.2
  | none => exact h.keep ⟨hg.os, hg.tape, hg.output, hg.size, fun i hi => hg.block i hi (by simp)⟩
theorem take16 {b : Nat} {R : List Nat} {w : World} (h : AB .u8 tSum b R w) (hl : R.length = 32) : (Kd.int .u8).C w (some ⟨b, 0, none⟩) 16 (nat (R.take 16)) := by
  have hc := h.row (by rw [hl]; decide)
  refine Kd.C_of_reads (d := (0 : Int)) ⟨by simp [nat, hl], by decide, fun _ => ⟨_, rfl, fun j hj => ?_⟩⟩
  rw [add_at, Nat.zero_add, h.cell (by omega), nat_get (by simp [hl]; omega)]
  simp [List.getD_eq_getElem?_getD, hj]
/-- a datagram: number, what is hidden, mark -/
def bodN (side : Nat) (kh : List Nat) (n : Nat) (plain : List Nat) : List Nat := be8 (numN side n) ++ hideN kh (numN side n) plain
def sealN (side : Nat) (kh km : List Nat) (n : Nat) (plain : List Nat) : List Nat := bodN side kh n plain ++ (markN km (bodN side kh n plain)).take 16
/-- what a call of a sealer's leaves alone -/
structure GR (g q : Nat) (w w' : World) : Prop where
  os : w'.os = w.os
  tape : w'.tape = w.tape
  output : w'.output = w.output
  size : w.heap.size ≤ w'.heap.size
  keep : ∀ k, k < w.heap.size → k ≠ g → k ≠ q → w'.heap[k]? = w.heap[k]?
theorem GR.refl (g q : Nat) (w : World) : GR g q w w := ⟨rfl, rfl, rfl, Nat.le_refl _, fun _ _ _ _ => rfl⟩
theorem GR.trans {g q : Nat} {w w1 w2 : World} (h : GR g q w w1) (h2 : GR g q w1 w2) : GR g q w w2 :=
  ⟨h2.os.trans h.os, h2.tape.trans h.tape, h2.output.trans h.output, Nat.le_trans h.size h2.size, fun k hk h3 h4 => (h2.keep k (Nat.lt_of_lt_of_le hk h.size) h3 h4).trans (h.keep k hk h3 h4)⟩
theorem GR.below {g q : Nat} {w w1 : World} (h : Below w.heap.size w w1) : GR g q w w1 := ⟨h.os, h.tape, h.output, h.size, fun k hk _ _ => h.block k hk⟩
theorem GR.grown {g q k0 : Nat} {w w1 : World} (h : w.grownBy w1 (some k0)) (h0 : k0 = g ∨ k0 = q) : GR g q w w1 :=
  ⟨h.os, h.tape, h.output, h.size, fun k hk h3 h4 => h.block k hk (fun e => by injection e with e; rcases h0 with h0 | h0 <;> omega)⟩
theorem GR.fresh {g q b : Nat} {w w1 w2 : World} (h : GR g q w w1) (hg : w1.grownBy w2 (some b)) (hb : w.heap.size ≤ b) : GR g q w w2 :=
  ⟨hg.os.trans h.os, hg.tape.trans h.tape, hg.output.trans h.output, Nat.le_trans h.size hg.size, fun k hk h3 h4 => (hg.block k (Nat.lt_of_lt_of_le hk h.size) (fun e => by injection e with e; omega)).trans (h.keep k hk h3 h4)⟩
theorem GR.freshR {g q : Nat} {row : Option Nat} {w w1 w2 : World} (h : GR g q w w1) (hg : w1.grownBy w2 row) (hb : ∀ k, row = some k → w.heap.size ≤ k) : GR g q w w2 :=
  ⟨hg.os.trans h.os, hg.tape.trans h.tape, hg.output.trans h.output, Nat.le_trans h.size hg.size, fun k hk h3 h4 => (hg.block k (Nat.lt_of_lt_of_le hk h.size) (fun e => by have := hb k e.symm; omega)).trans (h.keep k hk h3 h4)⟩
theorem GR.low {g q B : Nat} {w w1 w2 : World} (h : GR g q w1 w2) (hb : Below B w w1) (hg : B ≤ g) (hq : B ≤ q) (hB : B ≤ w1.heap.size) : Below B w w2 :=
  ⟨h.os.trans hb.os, h.tape.trans hb.tape, h.output.trans hb.output, Nat.le_trans hb.size h.size, fun k hk => (h.keep k (by omega) (by omega) (by omega)).trans (hb.block k hk)⟩
theorem GR.C {g q : Nat} {w w1 : World} {A : Option Addr} {l : List Nat} (h : GR g q w w1) (hC : (Kd.int .u8).C w A l.length (nat l)) (hA : 0 < l.length → ∀ ad, A = some ad → ad.block ≠ g ∧ ad.block ≠ q) : (Kd.int .u8).C w1 A l.length (nat l) := by
  rcases Nat.eq_zero_or_pos l.length with h0 | h0
  · obtain rfl := List.eq_nil_of_length_eq_zero h0
    exact Kd.C_of_reads (d := (0 : Int)) ⟨rfl, by decide, fun h => absurd h (by decide)⟩
  · obtain ⟨b, off, rfl, hb, hc⟩ := B_at hC h0
    have := hA h0 _ rfl
    have hm := h.keep b hb this.1 this.2
    refine Kd.C_of_reads (d := (0 : Int)) ⟨nat_length l, (B_open hC).1, fun _ => ⟨_, rfl, fun j hj => ?_⟩⟩
    rw [add_at, nat_get hj]
    refine Eq.trans ?_ (hc j hj)
    simp only [World.cell?, hm]
set_option maxRecDepth 100000 in
set_option maxHeartbeats 6400000 in
theorem seal_any (g p q side nx tn : Nat) (kh km plain : List Nat) (A : Option Addr) (c : Nat) (w : World) (h : SE g p q side kh km nx tn w) (hs : side = 0 ∨ side = 1) (h1 : 1 ≤ nx) (hnx : nx ≤ 9223372036854775807) (htn : tn < 4611686018427300000) (hk : kh.length = 16) (hk8 : ∀ x ∈ kh, x < 256) (hm8 : ∀ x ∈ km, x < 256) (hne : g ≠ p ∧ g ≠ q)
    (hC : (Kd.int .u8).C w A plain.length (nat plain)) (hA : 0 < plain.length → ∀ ad, A = some ad → ad.block ≠ g ∧ ad.block ≠ q) (hl : plain.length ≤ 512) (hl8 : ∀ x ∈ plain, x < 256) :
    Calls Try.prog 29 #[.pointer (some ⟨g, 0, none⟩), .slice A plain.length c] w fun e w' => ∃ v, e = .returned (.tuple #[v, .int .i64 0]) ∧ RO (sealN side kh km nx plain) w.heap.size v w' ∧ SE g p q side kh km (nx + 1) (tn + cntN 0 plain.length) w' ∧ GR g q w w' ∧ ∃ B0, w.heap.size ≤ B0 ∧ (Kd.int .u8).R 5 w' B0 (fun _ => True) v (nat (sealN side kh km nx plain)) := by
  have HS := Lib.hid h
  have HNe := Lib.hid hne
  have HL := Lib.hid hl
  have HLt := Lib.hid (show g < w.heap.size ∧ p < w.heap.size ∧ q < w.heap.size from ⟨h.lt, h.st.lt, h.st.cu.lt⟩)
  have hSN := SE.num h hne.1 hne.2 (nx + 1)
  have hg1 := grown_cell w ⟨g, 18, none⟩ (.int .u64 ((nx + 1 : Nat) : Int))
  have hG1 : GR g q w (w.setCell ⟨g, 18, none⟩ (.int .u64 ((nx + 1 : Nat) : Int))) := GR.grown hg1 (.inl rfl)
  have HG1 := Lib.hid hG1
  have HS1 := Lib.hid hSN
  have HAd := Lib.hid (add64 g 18 (nx : Int) w.drew (by have := h.cn; exact this) (by have := h.fz 18; exact this) ⟨by omega, by omega⟩)
  have HNu := Lib.hid (fun W => number_any side nx W hs (by omega))
  have HNl := Lib.hid (show numN side nx < 18446744073709551616 from by unfold numN; rcases hs with rfl | rfl <;> omega)
  have z1 : ((nx : Int) == 0) = false := by rw [beq_eq_false_iff_ne]; omega
  have z2 : decide ((512 : Int) < (plain.length : Int)) = false := decide_eq_false (by omega)
  have z3 : ¬ (512 : Int) < (plain.length : Int) := by omega
  have z4 : (0 : Int) ≤ (nx : Int) := by omega
  have z5 : (nx : Int) ≤ 9223372036854775807 := by omega
  have z6 : (nx == 0) = false := by rw [beq_eq_false_iff_ne]; omega
  have z7 : (plain.length : Int) ≤ 512 := by omega
  have HMd := Lib.hid (fun W (h : W.cell? ⟨g, 1, none⟩ = some (.pointer (some ⟨p, 0, none⟩))) => made_any g p W h)
  have HNx := Lib.hid (fun W h1 h2 => next_any g p nx W h1 h2 (by omega))
  have HHi := Lib.hid (fun W (h : ST p q kh tn W) hn hCC hAA => hide_any p q tn (numN side nx) kh plain A c W h htn hn hk hk8 hCC hAA (by omega) hl8)
  have HC := Lib.hid hC
  have HA := Lib.hid hA
  have HK8 := Lib.hid hk8
  have HL8 := Lib.hid hl8
  have HM8 := Lib.hid hm8
  have hc0 := h.c0
  clear h hs h1 hnx htn hk hk8 hm8 hne hC hA hl hl8 hSN hg1 hG1
  obtain ⟨Sl, hSl⟩ : ∃ S, sealN side kh km nx plain = S := ⟨_, rfl⟩
  rw [hSl]
  have HSl := Lib.hid hSl
  clear hSl
  go_enter Try.func29, Try.ntmps29
  go_wp2_with fail
  refine (HMd.out w HS.out.c1).mono ?_
  rintro e w1 ⟨rfl, hw⟩
  rw [hw]
  clear hw w1
  go_wp2_with fail
  refine (HNx.out w HS.out.c1 HS.out.cn).mono ?_
  rintro e w1 ⟨rfl, hw⟩
  rw [hw]
  clear hw w1
  go_wp2_with fail
  refine Qi.wp_region_segs (fun w' => w'.cell? ⟨g, 0, none⟩ = some (.int .i64 (side : Int))) hc0 [([0, 1, 2, 3, 4, 5, 6], some 7), ([8], some 9), ([10], none)] (by kernel_rfl) (by kernel_rfl) (by kernel_rfl) (by kernel_rfl) ?_
  haveI : Nonempty (Qi.SW (fun w' => w'.cell? ⟨g, 0, none⟩ = some (.int .i64 (side : Int)))) := ⟨⟨w, hc0⟩⟩
  have q0 : ∀ m : Qi.SW (fun w' => w'.cell? ⟨g, 0, none⟩ = some (.int .i64 (side : Int))), m.w.cell? ⟨g, 0, none⟩ = some (.int .i64 (side : Int)) := fun m => m.h
  dsimp only [Qi.wpSegs, Q.picks, Q.pick]
  repeat (go_big_quiet_step (fail))
  refine wpQuiet_nil ?_
  go_wp2_with fail
  refine HAd.out.mono ?_
  rintro e w1 ⟨rfl, hw⟩
  rw [show (nx : Int) + 1 = ((nx + 1 : Nat) : Int) from rfl] at hw
  have hs1 : SE g p q side kh km (nx + 1) tn w1 := by rw [hw]; exact SE.num (HS.out.keep (Below.refl _ _).drew) HNe.out.1 HNe.out.2 (nx + 1)
  have hg1 : GR g q w w1 := (GR.below (Below.refl _ _).drew).trans (by rw [hw]; exact GR.grown (grown_cell _ _ _) (.inl rfl))
  have HS2 := Lib.hid hs1
  have HG2 := Lib.hid hg1
  have HC0 := Lib.hid hs1.c0
  have c1 := hs1.c1
  clear hw hs1 hg1 HS1 HG1 HAd hc0
  go_wp2_with fail
  refine Qi.ev HC0.out ?_
  repeat (go_big_quiet_step (fail))
  refine wpQuiet_nil ?_
  go_wp2_with fail
  refine (HNu.out _).mono ?_
  rintro e w2 ⟨rfl, hw⟩
  rw [hw]
  clear hw w2
  go_wp2_with fail
  refine Qi.ev HC0.out ?_
  repeat (go_big_quiet_step (fail))
  refine wpQuiet_nil ?_
  refine NoPanic.normal ?_
  go_wp2_with fail
  refine (HHi.out w1 HS2.out.st HNl.out (HG2.out.C HC.out HA.out) (fun h0 ad e => (HA.out h0 ad e).2)).mono ?_
  rintro e w2 ⟨v, rfl, hrv, hcu, hg⟩
  obtain ⟨Ah, ch, rfl, hch, hCh, hbh⟩ := hrv.open
  have HS3 := Lib.hid (show SE g p q side kh km (nx + 1) (tn + cntN 0 plain.length) w2 from ⟨(hg.block g HS2.out.lt (fun e => HNe.out.2 (by injection e))).trans HS2.out.blk, HS2.out.st.turned hg hcu, HS2.out.len⟩)
  have HG3 := Lib.hid (HG2.out.trans (GR.grown hg (.inr rfl)))
  have HCh := Lib.hid hCh
  have HBh := Lib.hid hbh
  have HHl := Lib.hid (hideN_len kh (numN side nx) plain)
  have HH8 := Lib.hid (hideN_lt HK8.out (numN side nx) HL8.out)
  have HB0 := Lib.hid (show bodN side kh nx plain = be8 (numN side nx) ++ hideN kh (numN side nx) plain from rfl)
  have HSe := Lib.hid (show Sl = bodN side kh nx plain ++ (markN km (bodN side kh nx plain)).take 16 from by rw [← HSl.out]; rfl)
  clear HSl
  have HBe := Lib.hid (fun k j (hk : k < 8) (hj : 7 - k = j) => be_int (numN side nx) k j hk hj)
  have hnl := HNl.out
  clear hrv hcu hg hch hCh hbh HHi HNu HC0 HS HS2 HG2 HA HC c1
  generalize numN side nx = N at *
  generalize hideN kh N plain = H at *
  generalize bodN side kh nx plain = Bd at *
  rw [HHl.out]
  obtain ⟨M, hM⟩ : ∃ M : Nat, M = 8 + plain.length + 16 := ⟨_, rfl⟩
  have hMi : 8 + (plain.length : Int) + 16 = (M : Int) := by omega
  have HMn := Lib.hid hM
  have hmk : ∀ W : World, (Instr.makeSlice 41 (.int .i64 8) (.int .i64 (M : Int))).run Try.prog W = .ok (.slice (some ⟨W.heap.size, 0, none⟩) 8 M) (W.alloc (.cells (arr .u8 (List.replicate M 0)) 5)) := fun W => make_bc 8 M W (by omega) (by omega)
  have y1 : (N : Int) < 18446744073709551616 := by omega
  have y2 : (0 : Int) ≤ (N : Int) := by omega
  have y3 : (M : Int) ≤ 600 := by omega
  clear hM hnl
  go_upto_region 12 with (fail)
  refine wp_at fun W3 hW3 => ?_
  obtain ⟨b0, hb0⟩ : ∃ b, w2.heap.size = b := ⟨_, rfl⟩
  have hA0 := AB.mk w2 .u8 5 (List.replicate M 0)
  have hB3 : Below w2.heap.size w2 W3 := by rw [hW3]; exact (Below.refl _ _).alloc (Nat.le_refl _) _
  rw [← hW3, hb0] at hA0
  rw [hb0] at hB3 ⊢
  have HB0s := Lib.hid hb0
  have HA0 := Lib.hid (show AB .u8 5 b0 (fl (be8 N) 0 ++ List.replicate (plain.length + 16) 0) W3 from by
    rw [fl_zero, be8_len, List.replicate_append_replicate, show 8 + (plain.length + 16) = M from by have := HMn.out; omega]; exact hA0)
  have HB3 := Lib.hid hB3
  clear hW3 hA0 hB3 hb0
  go_wp2_with fail
  go_loopg [52, 10] 10 (fun g' v52 v10 w' => ∃ k : Nat, v52 = .int .i64 (k : Int) ∧ Hid (k ≤ 8 ∧ 8 < g' + k) ∧ Hid (AB .u8 5 b0 (fl (be8 N) k ++ List.replicate (plain.length + 16) 0) w') ∧ Hid (Below b0 w2 w'))
  case atStart => exact ⟨0, rfl, Lib.hid ⟨by omega, by omega⟩, HA0, HB3⟩
  case round =>
    obtain ⟨k, rfl, HJ, HX, HBk⟩ := hrel
    clear HA0 HB3
    cases gk with
    | zero => have := HJ.out; omega
    | succ g1 =>
      by_cases hk : k < 8
      · have HJ' := Lib.hid (show k < 8 ∧ 8 < (g1 + 1) + k from ⟨hk, HJ.out.2⟩)
        obtain ⟨j, hj⟩ : ∃ j, 7 - k = j := ⟨_, rfl⟩
        have x0 : (k : Int) < 8 := by omega
        have x1 : (0 : Int) ≤ (k : Int) := by omega
        have x2 : (7 : Int) - (k : Int) = (j : Int) := by omega
        have x3 : (j : Int) ≤ 7 := by omega
        have x4 : (0 : Int) ≤ (j : Int) := by omega
        have b1 := HBe.out k j hk hj
        obtain ⟨va, hva⟩ : ∃ y, (be8 N).getD k 0 = y := ⟨_, rfl⟩
        have hm := head_step (N := N) (Z := List.replicate (plain.length + 16) 0) hk
        rw [hva] at b1 hm
        have HM := Lib.hid hm
        have c1 := HX.out.cell (i := k) (by rw [List.length_append, fl_length _ (by rw [be8_len]; omega), be8_len]; omega)
        have f1 := HX.out.fz k
        clear hj hva hm hk HJ
        go_wp2_with fail
        clear c1 f1 b1
        go_roundg g1
        case measure => have := HJ'.out; omega
        case rel =>
          have hx := HX.out.set k va
          rw [HM.out] at hx
          exact ⟨k + 1, by go_num, Lib.hid (by have := HJ'.out; omega), Lib.hid hx, Lib.hid (HBk.out.setCell (p := ⟨b0, k, none⟩) (Nat.le_refl _) _)⟩
      · obtain rfl : k = 8 := by have := HJ.out; omega
        clear hk HJ
        have HX8 := Lib.hid (show AB .u8 5 b0 (be8 N ++ List.replicate (plain.length + 16) 0) wr from by have := HX.out; have e := fl_all (be8 N); rw [be8_len] at e; rwa [e] at this)
        have HR := Lib.hid (ownN HX8.out (B := b0) (Nat.le_refl _) (n := 8) (by simp [be8_len]) (by simp [be8_len, maxLen]; have := HL.out; omega))
        have hML : (be8 N ++ List.replicate (plain.length + 16) 0).length = M := by rw [List.length_append, be8_len, List.length_replicate]; have := HMn.out; omega
        rw [hML, List.take_left' (be8_len N)] at HR
        have HCr := Lib.hid (Kd.C_below HCh.out (by rw [HB0s.out]; exact HBk.out))
        rw [HHl.out] at HCr
        have HGr := Lib.hid (HG3.out.trans (GR.below (by rw [HB0s.out]; exact HBk.out)))
        have HSr := Lib.hid (HS3.out.keep (by rw [HB0s.out]; exact HBk.out))
        have HLb := Lib.hid (show w.heap.size ≤ b0 from by rw [← HB0s.out]; exact HG3.out.size)
        have HSb := Lib.hid (show b0 ≤ wr.heap.size from Nat.le_of_lt HX8.out.lt)
        have HBl := Lib.hid (show Bd.length = 8 + plain.length from by rw [HB0.out, List.length_append, be8_len, HHl.out])
        have HB8 := Lib.hid (show ∀ x ∈ Bd, x < 256 from by rw [HB0.out]; exact app_lt (be8_lt N) HH8.out)
        have HBn := Lib.hid (show nat (be8 N) ++ nat H = nat Bd from by rw [HB0.out, nat_app])
        have hkc := key_all g
        clear hML HX HX8 HBk HCh HBh HG3 HS3 HB0s HBe hmk hMi
        go_wp2_with (at_builtin; refine appn (w0 := wr) .u8 b0 (.tmp 65) (.tmp 66) 41 5 1 rfl rfl Try.underlying41 info_u8 (by decide) _ (nat (be8 N)) (nat H) Ah plain.length ch rfl rfl HR.out HCr.out (Below.refl _ _) HSb.out (by rw [nat_length, be8_len]; have := HL.out; omega) ?_; intro v4 w4 hr4 hb4 hg4; rw [HBn.out] at hr4; (obtain ⟨A4, c4, hv4⟩ := Kd.R_slice hr4); (obtain ⟨n4, hn4⟩ : ∃ n, (nat Bd).length = n := ⟨_, rfl⟩); (rw [hn4] at hv4; subst hv4); (have HR4 := Lib.hid hr4); (have Hn4 := Lib.hid (show Bd.length = n4 from by rw [← hn4, nat_length])); (have HG4 := Lib.hid (show wr.grownBy w4 (some b0) from hg4)); (have HSz4 := Lib.hid (show wr.heap.size ≤ w4.heap.size from hg4.size)); clear hr4 hb4 hg4 hn4)
        have hg4 : wr.grownBy w4 (some b0) := HG4.out
        have hse4 : SE g p q side kh km (nx + 1) (tn + cntN 0 plain.length) w4 := SE.grow HSr.out hg4 (by have := HLt.out; have := HLb.out; omega) (by have := HLt.out; have := HLb.out; omega) (by have := HLt.out; have := HLb.out; omega)
        have HS4 := Lib.hid hse4
        have HGw := Lib.hid (HGr.out.fresh hg4 HLb.out)
        have hr4 := (Kd.R_reads' HR4.out)
        have hc4 := hr4.2.1
        have hC4 := hr4.2.2
        rw [nat_length, Hn4.out] at hC4
        have hrb := RB_one (l := Bd) (A := A4) (c := c4) 41 (w := w4) (by rw [Hn4.out]; exact hC4) HB8.out (by rw [Hn4.out]; exact hc4)
        rw [Hn4.out] at hrb
        have hq := mark_any km [Bd] (some ⟨g, 2, none⟩) (some ⟨w4.heap.size, 0, none⟩) 16 1 (w4.alloc (.cells #[.slice A4 n4 c4] 41)) (Kd.C_alloc hse4.key _) (by rw [hse4.len]; omega) HM8.out (by rw [hse4.len]; omega) hrb (by simp) (by have := HBl.out; have := HL.out; simp; omega)
        rw [show ([Bd] : List (List Nat)).flatten = Bd from by simp, hse4.len] at hq
        have hRl := markN_len km Bd
        have hR8 := markN_lt km Bd
        have hse := HSe.out
        clear HSe
        generalize markN km Bd = R at hse hq hRl hR8
        have HSe := Lib.hid hse
        clear hse
        have HRl := Lib.hid hRl
        have HR8 := Lib.hid hR8
        have HQ := Lib.hid hq
        have hsc := sum_cut
        clear hg4 hse4 hr4 hc4 hC4 hrb hq hRl hR8 HG4 HSr HGr hkc HR HCr
        refine HQ.out.mono ?_
        rintro e w6 ⟨rfl, hb6⟩
        have hb46 : Below w4.heap.size w4 w6 := ((Below.refl _ _).alloc (Nat.le_refl _) _).trans (hb6.mono (by rw [alloc_size]; omega))
        have HR6 := Lib.hid (Kd.R_below HR4.out hb46)
        have HSz6 := Lib.hid (show w4.heap.size ≤ w6.heap.size from hb46.size)
        have HS6 := Lib.hid (HS4.out.keep hb46)
        have HG6 := Lib.hid (HGw.out.trans (GR.below hb46))
        clear hb6 hb46 HR4 HS4 HGw HQ
        go_wp2_with (first
          | (refine store_ab .u8 w6.heap.size z32 R rfl rfl rfl rfl rfl (AB.mk w6 .u8 tSum z32) (by rw [HRl.out]; exact info_sum) (by rw [HRl.out]; rfl) ?_; intro w7 h7 hg7; (have HA7 := Lib.hid h7); (have HB7 := Lib.hid (below_new hg7).1); (have HR7 := Lib.hid (Kd.R_below HR6.out (below_new hg7).1)); (have HS7 := Lib.hid (HS6.out.keep (below_new hg7).1)); (have HG7 := Lib.hid (HG6.out.trans (GR.below (below_new hg7).1))); (have HC7 := Lib.hid (take16 h7 HRl.out)); clear h7 hg7)
          | (at_builtin; refine appn (w0 := w7) .u8 b0 (.tmp 75) (.tmp 76) 41 5 1 rfl rfl Try.underlying41 info_u8 (by decide) _ (nat Bd) (nat (R.take 16)) (some ⟨w6.heap.size, 0, none⟩) 16 32 rfl rfl HR7.out HC7.out (Below.refl _ _) (Nat.le_trans (Nat.le_trans HSb.out (Nat.le_trans HSz4.out HSz6.out)) HB7.out.size) (by rw [nat_length]; have := HBl.out; have := HL.out; omega) ?_; intro v8 w8 hr8 hb8 hg8; (obtain ⟨A8, c8, hv8⟩ := Kd.R_slice hr8); (obtain ⟨n8, hn8⟩ : ∃ n, (nat Bd ++ nat (R.take 16)).length = n := ⟨_, rfl⟩); (rw [hn8] at hv8; subst hv8); (have HR8 := Lib.hid hr8); (have Hn8 := Lib.hid hn8); (have HG8 := Lib.hid (show w7.grownBy w8 (Value.slice A4 n4 c4).ownBlock from hg8)); clear hr8 hb8 hn8 hg8))
        have hr8 := (Kd.R_reads' HR8.out)
        rw [show nat Bd ++ nat (R.take 16) = nat Sl from by rw [HSe.out, nat_app]] at hr8 Hn8
        have hn8 : Sl.length = n8 := by rw [← Hn8.out, nat_length]
        have hfr := R_block HR8.out
        have hbs := Kd.R_base HR7.out
        have hsf : SE g p q side kh km (nx + 1) (tn + cntN 0 plain.length) w8 := SE.growR HS7.out HG8.out (fun k hk => by have := hbs k hk; have := HLt.out; have := HLb.out; omega)
        have hgf := HG7.out.freshR HG8.out (fun k hk => by have := hbs k hk; have := HLb.out; omega)
        have HRO := Lib.hid (show RO Sl w.heap.size (.slice A8 n8 c8) w8 from ⟨A8, c8, by rw [hn8], by rw [hn8]; exact hr8.2.1, by rw [hn8]; have := hr8.2.2; rw [nat_length, hn8] at this; exact this, fun ad e => Nat.le_trans HLb.out (hfr ad e)⟩)
        have HRR := Lib.hid (show (Kd.int .u8).R 5 w8 b0 (fun _ => True) (.slice A8 n8 c8) (nat Sl) from by have := HR8.out; rwa [show nat Bd ++ nat (R.take 16) = nat Sl from by rw [HSe.out, nat_app]] at this)
        clear hr8 hn8 hfr
        go_ret2
        exact ⟨_, rfl, HRO.out, hsf, hgf, b0, HLb.out, HRR.out⟩
end Go.Proofs.Ytblnclooobggnaa.Se

namespace Go.Proofs.Ytblnclooobggnaa.Se
open Go.RowKit Go.Proofs.Ytblnclooobggnaa.L Go.Proofs.Ytblnclooobggnaa.N Go.Proofs.Ytblnclooobggnaa.A Go.Proofs.Ytblnclooobggnaa.Mc Go.Proofs.YtblnclooobggnaaW.PrintWords

set_option maxRecDepth 100000 in
theorem open_short (g p q side nx tn : Nat) (kh km l : List Nat) (A : Option Addr) (c : Nat) (w : World) (h : SE g p q side kh km nx tn w) (h24 : l.length < 24) :
    Calls Try.prog 31 #[.pointer (some ⟨g, 0, none⟩), .slice A l.length c] w fun e w' => e = .returned (.tuple #[.int .u64 0, .slice none 0 0, .int .i64 10]) ∧ w' = w := by
  have HMd := Lib.hid (made_any g p w h.c1)
  have z1 : (l.length : Int) < 24 := by omega
  have z2 : decide ((l.length : Int) < 24) = true := decide_eq_true z1
  clear h h24
  go_enter Try.func31, Try.ntmps31
  go_wp2_with fail
  refine HMd.out.mono ?_
  rintro e w1 ⟨rfl, hw⟩
  rw [hw]
  clear hw w1
  go_wp2_with fail
  exact bodyPost_ret (v := .tuple #[.int .u64 0, .slice none 0 0, .int .i64 10]) (by simp [results, Try.results31]) rfl ⟨rfl, rfl⟩
set_option maxRecDepth 100000 in
set_option maxHeartbeats 6400000 in
theorem open_tag (g p q side nx tn : Nat) (kh km l : List Nat) (A : Option Addr) (c : Nat) (w : World) (h : SE g p q side kh km nx tn w) (hm8 : ∀ x ∈ km, x < 256) (hC : (Kd.int .u8).C w A l.length (nat l)) (hc : l.length ≤ c) (hl8 : ∀ x ∈ l, x < 256) (h24 : 24 ≤ l.length) (h536 : l.length ≤ 536) (hr : rightN km (l.drop (l.length - 16)) (l.take (l.length - 16)) = false) :
    Calls Try.prog 31 #[.pointer (some ⟨g, 0, none⟩), .slice A l.length c] w fun e w' => e = .returned (.tuple #[.int .u64 0, .slice none 0 0, .int .i64 20]) ∧ Below w.heap.size w w' := by
  have HMd := Lib.hid (made_any g p w h.c1)
  have HS := Lib.hid h
  have HC := Lib.hid hC
  have HL8 := Lib.hid hl8
  have HM8 := Lib.hid hm8
  have HRt := Lib.hid hr
  obtain ⟨m, hm⟩ : ∃ m, l.length - 16 = m := ⟨_, rfl⟩
  have HL := Lib.hid (show l.length = m + 16 ∧ 8 ≤ m ∧ m ≤ 520 ∧ m + 16 ≤ c from by omega)
  have zm : (l.length : Int) - 16 = (m : Int) := by omega
  obtain ⟨hct, hctC⟩ := cutT A l.length c (m : Int) m rfl (by omega) hc
  obtain ⟨A2, c2, hcf, hc2, hcfC⟩ := cutF A l.length c (m : Int) m rfl (by omega) hc
  rw [show l.length - m = 16 from by omega] at hcf hc2 hcfC
  have HT := Lib.hid (fun W hW => hctC W l hW)
  have HF := Lib.hid (fun W hW => hcfC W l hW)
  have hkc := key_all g
  have z1 : ¬ (l.length : Int) < 24 := by omega
  have z2 : decide ((l.length : Int) < 24) = false := decide_eq_false z1
  have z3 : ¬ (536 : Int) < (l.length : Int) := by omega
  have z4 : decide ((536 : Int) < (l.length : Int)) = false := decide_eq_false z3
  have z5 : (l.length : Int) ≤ 536 := by omega
  have z6 : (0 : Int) ≤ (m : Int) := by omega
  rw [hm] at HRt
  clear h hm8 hC hc hl8 h24 h536 hr hm hctC hcfC hc2
  go_enter Try.func31, Try.ntmps31
  go_wp2_with fail
  refine HMd.out.mono ?_
  rintro e w1 ⟨rfl, hw⟩
  rw [hw]
  clear hw w1
  go_wp2_with fail
  refine Q.wp_region_segs none [([0, 1, 2, 3, 4, 5, 6, 7, 8, 9], some 10), ([], some 11), ([12], none)] (by kernel_rfl) (by kernel_rfl) (by kernel_rfl) (by kernel_rfl) ?_
  dsimp only [Q.wpSegs, Q.picks, Q.pick]
  repeat (go_big_quiet_step (fail))
  refine wpQuiet_nil ?_
  go_wp2_with fail
  refine Q.ev_keep ((Below.refl _ _).alloc (Nat.le_refl _) _) (Nat.le_refl _) ?_
  refine wpQuiet_nil ?_
  have hb1 : Below w.heap.size w w.drew := (Below.refl _ _).drew
  have hq := right_any km (l.drop m) [l.take m] (some ⟨g, 2, none⟩) A2 (some ⟨w.heap.size, 0, none⟩) 16 c2 1 (w.drew.alloc (.cells #[.slice A m c] 41)) (Kd.C_alloc (HS.out.keep hb1).key _) (by rw [HS.out.len]; omega) HM8.out (by rw [HS.out.len]; omega) (by rw [List.length_drop, HL.out.1, show m + 16 - m = 16 from by omega]; exact Kd.C_alloc (HF.out _ (Kd.C_below HC.out hb1)) _) (fun x hx => HL8.out x (List.mem_of_mem_drop hx))
    (by have := RB_one (l := l.take m) (A := A) (c := c) 41 (w := w.drew) (by rw [List.length_take, Nat.min_eq_left (by have := HL.out; omega)]; exact HT.out _ (Kd.C_below HC.out hb1)) (fun x hx => HL8.out x (List.mem_of_mem_take hx)) (by rw [List.length_take]; have := HL.out; omega); rw [List.length_take, Nat.min_eq_left (by have := HL.out; omega)] at this; exact this) (by simp) (by simp; have := HL.out; omega)
  rw [show ([l.take m] : List (List Nat)).flatten = l.take m from by simp, HS.out.len, HRt.out, List.length_drop, HL.out.1, show m + 16 - m = 16 from by omega] at hq
  have HQ := Lib.hid hq
  have hsz : (w.drew.alloc (.cells #[.slice A m c] 41)).heap.size = w.heap.size + 1 := by rw [alloc_size]; rfl
  have hbb : Below w.heap.size w (w.drew.alloc (.cells #[.slice A m c] 41)) := hb1.alloc (Nat.le_refl _) _
  have HBb := Lib.hid hbb
  have HSz := Lib.hid hsz
  clear hq hb1 hsz hbb
  go_wp2_with fail
  refine HQ.out.mono ?_
  rintro e w3 ⟨rfl, hb3⟩
  have HB3 := Lib.hid (HBb.out.trans (hb3.mono (by rw [HSz.out]; omega)))
  have HB4 := Lib.hid hb3
  clear hb3
  go_wp2_with fail
  refine Q.ev_keep HB4.out (by show w.heap.size ≤ (w.alloc (.cells #[.slice A m c] 41)).heap.size; rw [alloc_size]; omega) ?_
  repeat (go_big_quiet_step (fail))
  refine wpQuiet_nil ?_
  refine NoPanic.normal ?_
  go_wp2_with fail
  exact bodyPost_ret (v := .tuple #[.int .u64 0, .slice none 0 0, .int .i64 20]) (by simp [results, Try.results31]) rfl ⟨rfl, HB3.out⟩
end Go.Proofs.Ytblnclooobggnaa.Se

namespace Go.Proofs.Ytblnclooobggnaa.Se
open Go.RowKit Go.Proofs.Ytblnclooobggnaa.L Go.Proofs.Ytblnclooobggnaa.N Go.Proofs.Ytblnclooobggnaa.A Go.Proofs.Ytblnclooobggnaa.Mc Go.Proofs.YtblnclooobggnaaW.PrintWords

theorem andn_top (a : Nat) (ha : a < 2 ^ 64) : bits .andNot .u64 (a : Int) 9223372036854775808 = ((a % 2 ^ 63 : Nat) : Int) := by
  rw [show (9223372036854775808 : Int) = ((2 ^ 63 : Nat) : Int) from rfl]
  simp only [bits, BitVec.ofInt_natCast]
  have e : (BitVec.ofNat IntKind.u64.bits a &&& ~~~BitVec.ofNat IntKind.u64.bits (2 ^ 63)).toNat = a % 2 ^ 63 := by
    apply Nat.eq_of_testBit_eq
    intro i
    rw [BitVec.testBit_toNat, Nat.testBit_mod_two_pow]
    have h64 : IntKind.u64.bits = 64 := rfl
    simp only [BitVec.getLsbD_and, BitVec.getLsbD_not, BitVec.getLsbD_ofNat, h64, Nat.testBit_two_pow]
    by_cases h1 : i < 64
    · by_cases h2 : i < 63
      · have h3 : ¬ 63 = i := by omega
        simp [h1, h2, h3]
      · have h3 : 63 = i := by omega
        simp [← h3]
    · have h3 : a.testBit i = false := Nat.testBit_lt_two_pow (Nat.lt_of_lt_of_le ha (Nat.pow_le_pow_right (by decide) (by omega)))
      simp [h1, h3]
  rw [e]
  exact wraps_u64 _ (by omega) (by have := Nat.mod_lt a (show 0 < 2 ^ 63 by decide); omega)
theorem num_mod {s n : Nat} (hs : s = 0 ∨ s = 1) (hn : n ≤ 9223372036854775807) : numN s n % 2 ^ 63 = n := by
  unfold numN
  rcases hs with rfl | rfl <;> omega
theorem num_inj {s t n : Nat} (hs : s = 0 ∨ s = 1) (ht : t = 0 ∨ t = 1) (h : numN s n = numN t n) : s = t := by
  unfold numN at h
  rcases hs with rfl | rfl <;> rcases ht with rfl | rfl <;> omega
theorem hide_hide (kh : List Nat) (N : Nat) (plain : List Nat) : hideN kh N (hideN kh N plain) = plain := hideN_back kh N plain
/-- what the head's first k bytes are -/
def hdN (N k : Nat) : Nat := N / 256 ^ (8 - k)
theorem hd_zero {N : Nat} (h : N < 2 ^ 64) : hdN N 0 = 0 := by
  unfold hdN
  exact Nat.div_eq_of_lt (by rw [show 256 ^ (8 - 0) = 2 ^ 64 from by decide]; exact h)
theorem hd_all (N : Nat) : hdN N 8 = N := by unfold hdN; simp
theorem hd_step {N k : Nat} (h : k < 8) : hdN N k * 256 + (be8 N).getD k 0 = hdN N (k + 1) := by
  unfold hdN
  rw [be8_get N h, show 8 - k = (7 - k) + 1 from by omega, show 8 - (k + 1) = 7 - k from by omega, Nat.pow_succ, ← Nat.div_div_eq_div_mul]
  omega
theorem hd_lt {N k : Nat} (h : N < 2 ^ 64) (hk : k < 8) : hdN N k < 2 ^ 56 := by
  unfold hdN
  rw [Nat.div_lt_iff_lt_mul (Nat.pow_pos (by decide))]
  have : 256 ^ 1 ≤ 256 ^ (8 - k) := Nat.pow_le_pow_right (by decide) (by omega)
  omega
theorem shl_or {v y : Nat} (hv : v < 2 ^ 56) (hy : y < 256) : bits .or .u64 ((v : Int) * 256) (y : Int) = ((v * 256 + y : Nat) : Int) := by
  have := or64 8 (x := (v : Int) * 256) (y := (y : Int)) (by omega) (by omega) (by omega) (by omega) (by omega) (by omega)
  rw [this]
  omega
theorem right_own (km b : List Nat) : rightN km ((markN km b).take 16) b = true := by
  unfold rightN
  have h : ((markN km b).take 16).length = 16 := by rw [List.length_take, markN_len]; rfl
  exact decide_eq_true ⟨by omega, by omega, by rw [h]⟩
set_option maxRecDepth 100000 in
set_option maxHeartbeats 6400000 in
theorem open_side (g p q side s2 t n nx tn : Nat) (kh km l : List Nat) (A : Option Addr) (c : Nat) (w : World) (h : SE g p q side kh km nx tn w) (hs2 : s2 = 0 ∨ s2 = 1) (ht0 : t = 0 ∨ t = 1) (hst : side + t = 1) (hs : s2 = side) (hn : 1 ≤ n ∧ n ≤ 9223372036854775807) (hm8 : ∀ x ∈ km, x < 256) (hC : (Kd.int .u8).C w A l.length (nat l)) (hc : l.length ≤ c) (hl8 : ∀ x ∈ l, x < 256) (h24 : 24 ≤ l.length) (h536 : l.length ≤ 536) (hr : rightN km (l.drop (l.length - 16)) (l.take (l.length - 16)) = true) (hb : ∀ k, k < 8 → l.getD k 0 = (be8 (numN s2 n)).getD k 0) :
    Calls Try.prog 31 #[.pointer (some ⟨g, 0, none⟩), .slice A l.length c] w fun e w' => e = .returned (.tuple #[.int .u64 0, .slice none 0 0, .int .i64 21]) ∧ Below w.heap.size w w' := by
  have HBy := Lib.hid hb
  have hN : numN s2 n < 2 ^ 64 := by unfold numN; rcases hs2 with rfl | rfl <;> omega
  have hmd := num_mod hs2 hn.2
  have hcmp : (numN s2 n = numN t n) ↔ s2 = t := ⟨fun e => num_inj hs2 ht0 e, fun e => by rw [e]⟩
  have z8 : (1 : Int) - (side : Int) = (t : Int) := by omega
  have z9 : ((n : Int) == 0) = false := by rw [beq_eq_false_iff_ne]; omega
  have z10 : (n == 0) = false := by rw [beq_eq_false_iff_ne]; omega
  have z11 : (1 : Int) ≤ (n : Int) := by omega
  have z12 : (n : Int) ≤ 9223372036854775807 := by omega
  obtain ⟨N, hNN⟩ : ∃ N, numN s2 n = N := ⟨_, rfl⟩
  obtain ⟨M, hMM⟩ : ∃ M, numN t n = M := ⟨_, rfl⟩
  rw [hNN] at HBy hN hmd hcmp
  rw [hMM] at hcmp
  have HN := Lib.hid hN
  have HMd2 := Lib.hid (show numN t n = M from hMM)
  have han := andn_top N hN
  rw [hmd] at han
  have hne : ¬ N = M := fun e => by have := hcmp.1 e; omega
  have y1 : ((N : Int) == (M : Int)) = false := by rw [beq_eq_false_iff_ne]; omega
  have y2 : ¬ (N : Int) = (M : Int) := by omega
  have y3 : decide ((N : Int) = (M : Int)) = false := decide_eq_false y2
  have y4 : (N == M) = false := by rw [beq_eq_false_iff_ne]; exact hne
  clear hb hN hs2 hs hst hmd hcmp hNN hMM
  have HNu := Lib.hid (fun W => number_any t n W ht0 hn.2)
  have HMd := Lib.hid (made_any g p w h.c1)
  have HS := Lib.hid h
  have HC := Lib.hid hC
  have HL8 := Lib.hid hl8
  have HM8 := Lib.hid hm8
  have HRt := Lib.hid hr
  obtain ⟨m, hm⟩ : ∃ m, l.length - 16 = m := ⟨_, rfl⟩
  have HL := Lib.hid (show l.length = m + 16 ∧ 8 ≤ m ∧ m ≤ 520 ∧ m + 16 ≤ c from by omega)
  have zm : (l.length : Int) - 16 = (m : Int) := by omega
  obtain ⟨hct, hctC⟩ := cutT A l.length c (m : Int) m rfl (by omega) hc
  obtain ⟨A2, c2, hcf, hc2, hcfC⟩ := cutF A l.length c (m : Int) m rfl (by omega) hc
  rw [show l.length - m = 16 from by omega] at hcf hc2 hcfC
  have HT := Lib.hid (fun W hW => hctC W l hW)
  have HF := Lib.hid (fun W hW => hcfC W l hW)
  have hkc := key_all g
  have z1 : ¬ (l.length : Int) < 24 := by omega
  have z2 : decide ((l.length : Int) < 24) = false := decide_eq_false z1
  have z3 : ¬ (536 : Int) < (l.length : Int) := by omega
  have z4 : decide ((536 : Int) < (l.length : Int)) = false := decide_eq_false z3
  have z5 : (l.length : Int) ≤ 536 := by omega
  have z6 : (0 : Int) ≤ (m : Int) := by omega
  rw [hm] at HRt
  have hhd := (cutT A m c 8 8 rfl (by omega) (by omega)).1
  obtain ⟨ba, oa, rfl, hba, hca⟩ := B_at hC (by omega)
  have HCa := Lib.hid hca
  have HBa := Lib.hid hba
  clear ht0 hn h hm8 hC hc hl8 h24 h536 hr hm hctC hcfC hc2 hba hca
  go_enter Try.func31, Try.ntmps31
  go_wp2_with fail
  refine HMd.out.mono ?_
  rintro e w1 ⟨rfl, hw⟩
  rw [hw]
  clear hw w1
  go_wp2_with fail
  refine Q.wp_region_segs none [([0, 1, 2, 3, 4, 5, 6, 7, 8, 9], some 10), ([], some 11), ([12], none)] (by kernel_rfl) (by kernel_rfl) (by kernel_rfl) (by kernel_rfl) ?_
  dsimp only [Q.wpSegs, Q.picks, Q.pick]
  repeat (go_big_quiet_step (fail))
  refine wpQuiet_nil ?_
  go_wp2_with fail
  refine Q.ev_keep ((Below.refl _ _).alloc (Nat.le_refl _) _) (Nat.le_refl _) ?_
  refine wpQuiet_nil ?_
  have hb1 : Below w.heap.size w w.drew := (Below.refl _ _).drew
  have hq := right_any km (l.drop m) [l.take m] (some ⟨g, 2, none⟩) A2 (some ⟨w.heap.size, 0, none⟩) 16 c2 1 (w.drew.alloc (.cells #[.slice (some ⟨ba, oa, none⟩) m c] 41)) (Kd.C_alloc (HS.out.keep hb1).key _) (by rw [HS.out.len]; omega) HM8.out (by rw [HS.out.len]; omega) (by rw [List.length_drop, HL.out.1, show m + 16 - m = 16 from by omega]; exact Kd.C_alloc (HF.out _ (Kd.C_below HC.out hb1)) _) (fun x hx => HL8.out x (List.mem_of_mem_drop hx))
    (by have := RB_one (l := l.take m) (A := some ⟨ba, oa, none⟩) (c := c) 41 (w := w.drew) (by rw [List.length_take, Nat.min_eq_left (by have := HL.out; omega)]; exact HT.out _ (Kd.C_below HC.out hb1)) (fun x hx => HL8.out x (List.mem_of_mem_take hx)) (by rw [List.length_take]; have := HL.out; omega); rw [List.length_take, Nat.min_eq_left (by have := HL.out; omega)] at this; exact this) (by simp) (by simp; have := HL.out; omega)
  rw [show ([l.take m] : List (List Nat)).flatten = l.take m from by simp, HS.out.len, HRt.out, List.length_drop, HL.out.1, show m + 16 - m = 16 from by omega] at hq
  have HQ := Lib.hid hq
  have hsz : (w.drew.alloc (.cells #[.slice (some ⟨ba, oa, none⟩) m c] 41)).heap.size = w.heap.size + 1 := by rw [alloc_size]; rfl
  have hbb : Below w.heap.size w (w.drew.alloc (.cells #[.slice (some ⟨ba, oa, none⟩) m c] 41)) := hb1.alloc (Nat.le_refl _) _
  have HBb := Lib.hid hbb
  have HSz := Lib.hid hsz
  clear hq hb1 hsz hbb
  go_wp2_with fail
  refine HQ.out.mono ?_
  rintro e w3 ⟨rfl, hb3⟩
  have HB3 := Lib.hid (HBb.out.trans (hb3.mono (by rw [HSz.out]; omega)))
  have HB4 := Lib.hid hb3
  clear hb3
  go_wp2_with fail
  refine Q.ev_keep HB4.out (by show w.heap.size ≤ (w.alloc (.cells #[.slice (some ⟨ba, oa, none⟩) m c] 41)).heap.size; rw [alloc_size]; omega) ?_
  repeat (go_big_quiet_step (fail))
  refine wpQuiet_nil ?_
  refine NoPanic.normal ?_
  clear HC HT HF HQ HBb HB4
  go_wp2_with fail
  go_loopg [47, 8, 10] 10 (fun g' v47 v8 v10 w' => ∃ k : Nat, v47 = .int .i64 (k : Int) ∧ v8 = .int .u64 (hdN N k : Nat) ∧ Hid (k ≤ 8 ∧ 8 < g' + k) ∧ Hid (Below w.heap.size w w'))
  case atStart => exact ⟨0, rfl, by rw [hd_zero HN.out]; rfl, Lib.hid ⟨by omega, by omega⟩, HB3⟩
  case round =>
    obtain ⟨k, rfl, rfl, HJ, HBr⟩ := hrel
    clear HB3
    cases gk with
    | zero => have := HJ.out; omega
    | succ g1 =>
      by_cases hk : k < 8
      · have HJ' := Lib.hid (show k < 8 ∧ 8 < (g1 + 1) + k from ⟨hk, HJ.out.2⟩)
        have x0 : (k : Int) < 8 := by omega
        have x1 : (0 : Int) ≤ (k : Int) := by omega
        have c1 := (HBr.out.cell (p := ⟨ba, oa + k, none⟩) HBa.out).trans (HCa.out k (by have := HL.out; omega))
        have hlt := hd_lt HN.out hk
        have hst := hd_step (N := N) hk
        rw [HBy.out k hk] at c1
        have hy : (be8 N).getD k 0 < 256 := be8_lt N _ (by rw [List.getD_eq_getElem?_getD, List.getElem?_eq_getElem (by rw [be8_len]; exact hk)]; exact List.getElem_mem _)
        obtain ⟨y, hyy⟩ : ∃ y, (be8 N).getD k 0 = y := ⟨_, rfl⟩
        obtain ⟨v, hvv⟩ : ∃ v, hdN N k = v := ⟨_, rfl⟩
        obtain ⟨v', hvv'⟩ : ∃ v, hdN N (k + 1) = v := ⟨_, rfl⟩
        rw [hyy] at c1 hst hy
        rw [hvv] at hst hlt
        rw [hvv'] at hst
        have b1 := shl_or hlt hy
        rw [hst] at b1
        have x2 : (v : Int) < 72057594037927936 := by omega
        have x3 : (0 : Int) ≤ (v : Int) := by omega
        have x4 : (y : Int) < 256 := by omega
        have x5 : (0 : Int) ≤ (y : Int) := by omega
        rw [hvv]
        have HV := Lib.hid hvv'
        clear hyy hvv hvv' hst hlt hy hk HJ
        go_wp2_with fail
        clear c1 b1
        go_roundg g1
        case measure => have := HJ'.out; omega
        case rel => exact ⟨k + 1, by go_num, by rw [HV.out], Lib.hid (by have := HJ'.out; omega), HBr⟩
      · obtain rfl : k = 8 := by have := HJ.out; omega
        rw [hd_all]
        have HSr := Lib.hid (HS.out.keep HBr.out)
        clear hk HJ HS HCa HBy
        have c0 := HSr.out.c0
        have c1 := HSr.out.c1
        go_wp2_with fail
        refine (HNu.out _).mono ?_
        rintro e w4 ⟨rfl, hw⟩
        rw [hw, HMd2.out]
        clear hw w4
        go_wp2_with fail
        exact bodyPost_ret (v := .tuple #[.int .u64 0, .slice none 0 0, .int .i64 21]) (by simp [results, Try.results31]) rfl ⟨rfl, HBr.out⟩
set_option maxRecDepth 100000 in
set_option maxHeartbeats 6400000 in
theorem open_ok (g p q side s2 t n nx tn : Nat) (kh km l plain : List Nat) (A : Option Addr) (c : Nat) (w : World) (h : SE g p q side kh km nx tn w) (htn : tn < 4611686018427300000) (hk : kh.length = 16) (hk8 : ∀ x ∈ kh, x < 256) (hp8 : ∀ x ∈ plain, x < 256) (hpl : plain.length ≤ 512) (hne : g ≠ p ∧ g ≠ q) (hH : (l.take (l.length - 16)).drop 8 = hideN kh (numN s2 n) plain) (hlen : l.length = plain.length + 24) (hs2 : s2 = 0 ∨ s2 = 1) (ht0 : t = 0 ∨ t = 1) (hst : side + t = 1) (hs : s2 = t) (hn : 1 ≤ n ∧ n ≤ 9223372036854775807) (hm8 : ∀ x ∈ km, x < 256) (hC : (Kd.int .u8).C w A l.length (nat l)) (hc : l.length ≤ c) (hl8 : ∀ x ∈ l, x < 256) (hr : rightN km (l.drop (l.length - 16)) (l.take (l.length - 16)) = true) (hb : ∀ k, k < 8 → l.getD k 0 = (be8 (numN s2 n)).getD k 0) :
    Calls Try.prog 31 #[.pointer (some ⟨g, 0, none⟩), .slice A l.length c] w fun e w' => ∃ v, e = .returned (.tuple #[.int .u64 (n : Int), v, .int .i64 0]) ∧ RO plain w.heap.size v w' ∧ SE g p q side kh km nx (tn + cntN 0 plain.length) w' ∧ GR g q w w' := by
  have HBy := Lib.hid hb
  have hN : numN s2 n < 2 ^ 64 := by unfold numN; rcases hs2 with rfl | rfl <;> omega
  have hmd := num_mod hs2 hn.2
  have hcmp : (numN s2 n = numN t n) ↔ s2 = t := ⟨fun e => num_inj hs2 ht0 e, fun e => by rw [e]⟩
  have z8 : (1 : Int) - (side : Int) = (t : Int) := by omega
  have z9 : ((n : Int) == 0) = false := by rw [beq_eq_false_iff_ne]; omega
  have z10 : (n == 0) = false := by rw [beq_eq_false_iff_ne]; omega
  have z11 : (1 : Int) ≤ (n : Int) := by omega
  have z12 : (n : Int) ≤ 9223372036854775807 := by omega
  obtain ⟨N, hNN⟩ : ∃ N, numN s2 n = N := ⟨_, rfl⟩
  obtain ⟨M, hMM⟩ : ∃ M, numN t n = M := ⟨_, rfl⟩
  rw [hNN] at HBy hN hmd hcmp
  rw [hMM] at hcmp
  have HN := Lib.hid hN
  have HMd2 := Lib.hid (show numN t n = M from hMM)
  have han := andn_top N hN
  rw [hmd] at han
  have heq : N = M := hcmp.2 (by omega)
  subst heq
  have HKl := Lib.hid hk
  have HK8 := Lib.hid hk8
  have HTn := Lib.hid htn
  have HNe := Lib.hid hne
  have hHl : (hideN kh N plain).length = plain.length := hideN_len _ _ _
  have HH8 := Lib.hid (hideN_lt hk8 N hp8)
  have HHH := Lib.hid (hide_hide kh N plain)
  rw [hNN] at hH
  clear hk hk8 htn hne hp8
  obtain ⟨H, hHe⟩ : ∃ H, hideN kh N plain = H := ⟨_, rfl⟩
  rw [hHe] at hH hHl HH8 HHH
  clear hHe
  have HHp := Lib.hid hHl
  have HHl := Lib.hid (show H.length ≤ 512 from by omega)
  clear hb hN hs2 hs hst hmd hcmp hNN hMM
  have HNu := Lib.hid (fun W => number_any t n W ht0 hn.2)
  have HMd := Lib.hid (made_any g p w h.c1)
  have HS := Lib.hid h
  have HC := Lib.hid hC
  have HL8 := Lib.hid hl8
  have HM8 := Lib.hid hm8
  have HRt := Lib.hid hr
  obtain ⟨m, hm⟩ : ∃ m, l.length - 16 = m := ⟨_, rfl⟩
  have HL := Lib.hid (show l.length = m + 16 ∧ 8 ≤ m ∧ m ≤ 520 ∧ m + 16 ≤ c from by omega)
  have zm : (l.length : Int) - 16 = (m : Int) := by omega
  obtain ⟨hct, hctC⟩ := cutT A l.length c (m : Int) m rfl (by omega) hc
  obtain ⟨A2, c2, hcf, hc2, hcfC⟩ := cutF A l.length c (m : Int) m rfl (by omega) hc
  rw [show l.length - m = 16 from by omega] at hcf hc2 hcfC
  have HT := Lib.hid (fun W hW => hctC W l hW)
  have HF := Lib.hid (fun W hW => hcfC W l hW)
  have hkc := key_all g
  have z1 : ¬ (l.length : Int) < 24 := by omega
  have z2 : decide ((l.length : Int) < 24) = false := decide_eq_false z1
  have z3 : ¬ (536 : Int) < (l.length : Int) := by omega
  have z4 : decide ((536 : Int) < (l.length : Int)) = false := decide_eq_false z3
  have z5 : (l.length : Int) ≤ 536 := by omega
  have z6 : (0 : Int) ≤ (m : Int) := by omega
  rw [hm] at HRt
  have hhd := (cutT A m c 8 8 rfl (by omega) (by omega)).1
  obtain ⟨ba, oa, rfl, hba, hca⟩ := B_at hC (by omega)
  have HCa := Lib.hid hca
  have HBa := Lib.hid hba
  obtain ⟨A3, c3, hcf3, hc3, hcf3C⟩ := cutF (some ⟨ba, oa, none⟩) m c 8 8 rfl (by omega) (by omega)
  have HC3 := Lib.hid (fun W (hb : Below w.heap.size w W) => hcf3C W (l.take m) (hctC W l (Kd.C_below hC hb)))
  rw [hm] at hH
  rw [hH, show m - 8 = H.length from by omega] at HC3
  rw [show m - 8 = H.length from by omega] at hcf3
  clear hc3 hcf3C hH hHl hlen hpl
  clear ht0 hn h hm8 hC hc hl8 hr hm hctC hcfC hc2 hba hca
  go_enter Try.func31, Try.ntmps31
  go_wp2_with fail
  refine HMd.out.mono ?_
  rintro e w1 ⟨rfl, hw⟩
  rw [hw]
  clear hw w1
  go_wp2_with fail
  refine Q.wp_region_segs none [([0, 1, 2, 3, 4, 5, 6, 7, 8, 9], some 10), ([], some 11), ([12], none)] (by kernel_rfl) (by kernel_rfl) (by kernel_rfl) (by kernel_rfl) ?_
  dsimp only [Q.wpSegs, Q.picks, Q.pick]
  repeat (go_big_quiet_step (fail))
  refine wpQuiet_nil ?_
  go_wp2_with fail
  refine Q.ev_keep ((Below.refl _ _).alloc (Nat.le_refl _) _) (Nat.le_refl _) ?_
  refine wpQuiet_nil ?_
  have hb1 : Below w.heap.size w w.drew := (Below.refl _ _).drew
  have hq := right_any km (l.drop m) [l.take m] (some ⟨g, 2, none⟩) A2 (some ⟨w.heap.size, 0, none⟩) 16 c2 1 (w.drew.alloc (.cells #[.slice (some ⟨ba, oa, none⟩) m c] 41)) (Kd.C_alloc (HS.out.keep hb1).key _) (by rw [HS.out.len]; omega) HM8.out (by rw [HS.out.len]; omega) (by rw [List.length_drop, HL.out.1, show m + 16 - m = 16 from by omega]; exact Kd.C_alloc (HF.out _ (Kd.C_below HC.out hb1)) _) (fun x hx => HL8.out x (List.mem_of_mem_drop hx))
    (by have := RB_one (l := l.take m) (A := some ⟨ba, oa, none⟩) (c := c) 41 (w := w.drew) (by rw [List.length_take, Nat.min_eq_left (by have := HL.out; omega)]; exact HT.out _ (Kd.C_below HC.out hb1)) (fun x hx => HL8.out x (List.mem_of_mem_take hx)) (by rw [List.length_take]; have := HL.out; omega); rw [List.length_take, Nat.min_eq_left (by have := HL.out; omega)] at this; exact this) (by simp) (by simp; have := HL.out; omega)
  rw [show ([l.take m] : List (List Nat)).flatten = l.take m from by simp, HS.out.len, HRt.out, List.length_drop, HL.out.1, show m + 16 - m = 16 from by omega] at hq
  have HQ := Lib.hid hq
  have hsz : (w.drew.alloc (.cells #[.slice (some ⟨ba, oa, none⟩) m c] 41)).heap.size = w.heap.size + 1 := by rw [alloc_size]; rfl
  have hbb : Below w.heap.size w (w.drew.alloc (.cells #[.slice (some ⟨ba, oa, none⟩) m c] 41)) := hb1.alloc (Nat.le_refl _) _
  have HBb := Lib.hid hbb
  have HSz := Lib.hid hsz
  clear hq hb1 hsz hbb
  go_wp2_with fail
  refine HQ.out.mono ?_
  rintro e w3 ⟨rfl, hb3⟩
  have HB3 := Lib.hid (HBb.out.trans (hb3.mono (by rw [HSz.out]; omega)))
  have HB4 := Lib.hid hb3
  clear hb3
  go_wp2_with fail
  refine Q.ev_keep HB4.out (by show w.heap.size ≤ (w.alloc (.cells #[.slice (some ⟨ba, oa, none⟩) m c] 41)).heap.size; rw [alloc_size]; omega) ?_
  repeat (go_big_quiet_step (fail))
  refine wpQuiet_nil ?_
  refine NoPanic.normal ?_
  clear HC HT HF HQ HBb HB4
  go_wp2_with fail
  go_loopg [47, 8, 10] 10 (fun g' v47 v8 v10 w' => ∃ k : Nat, v47 = .int .i64 (k : Int) ∧ v8 = .int .u64 (hdN N k : Nat) ∧ Hid (k ≤ 8 ∧ 8 < g' + k) ∧ Hid (Below w.heap.size w w'))
  case atStart => exact ⟨0, rfl, by rw [hd_zero HN.out]; rfl, Lib.hid ⟨by omega, by omega⟩, HB3⟩
  case round =>
    obtain ⟨k, rfl, rfl, HJ, HBr⟩ := hrel
    clear HB3
    cases gk with
    | zero => have := HJ.out; omega
    | succ g1 =>
      by_cases hk : k < 8
      · have HJ' := Lib.hid (show k < 8 ∧ 8 < (g1 + 1) + k from ⟨hk, HJ.out.2⟩)
        have x0 : (k : Int) < 8 := by omega
        have x1 : (0 : Int) ≤ (k : Int) := by omega
        have c1 := (HBr.out.cell (p := ⟨ba, oa + k, none⟩) HBa.out).trans (HCa.out k (by have := HL.out; omega))
        have hlt := hd_lt HN.out hk
        have hst := hd_step (N := N) hk
        rw [HBy.out k hk] at c1
        have hy : (be8 N).getD k 0 < 256 := be8_lt N _ (by rw [List.getD_eq_getElem?_getD, List.getElem?_eq_getElem (by rw [be8_len]; exact hk)]; exact List.getElem_mem _)
        obtain ⟨y, hyy⟩ : ∃ y, (be8 N).getD k 0 = y := ⟨_, rfl⟩
        obtain ⟨v, hvv⟩ : ∃ v, hdN N k = v := ⟨_, rfl⟩
        obtain ⟨v', hvv'⟩ : ∃ v, hdN N (k + 1) = v := ⟨_, rfl⟩
        rw [hyy] at c1 hst hy
        rw [hvv] at hst hlt
        rw [hvv'] at hst
        have b1 := shl_or hlt hy
        rw [hst] at b1
        have x2 : (v : Int) < 72057594037927936 := by omega
        have x3 : (0 : Int) ≤ (v : Int) := by omega
        have x4 : (y : Int) < 256 := by omega
        have x5 : (0 : Int) ≤ (y : Int) := by omega
        rw [hvv]
        have HV := Lib.hid hvv'
        clear hyy hvv hvv' hst hlt hy hk HJ
        go_wp2_with fail
        clear c1 b1
        go_roundg g1
        case measure => have := HJ'.out; omega
        case rel => exact ⟨k + 1, by go_num, by rw [HV.out], Lib.hid (by have := HJ'.out; omega), HBr⟩
      · obtain rfl : k = 8 := by have := HJ.out; omega
        rw [hd_all]
        have HSr := Lib.hid (HS.out.keep HBr.out)
        clear hk HJ HS HCa HBy
        have c0 := HSr.out.c0
        have c1 := HSr.out.c1
        go_wp2_with fail
        refine (HNu.out _).mono ?_
        rintro e w4 ⟨rfl, hw⟩
        rw [hw, HMd2.out]
        clear hw w4
        go_wp2_with fail
        refine Qi.wp_region_segs (fun w' => w'.cell? ⟨g, 1, none⟩ = some (.pointer (some ⟨p, 0, none⟩))) c1 [([0, 1, 2, 3, 4, 5, 6], some 7), ([], some 8), ([9, 10, 11, 12, 13], none)] (by kernel_rfl) (by kernel_rfl) (by kernel_rfl) (by kernel_rfl) ?_
        haveI : Nonempty (Qi.SW (fun w' => w'.cell? ⟨g, 1, none⟩ = some (.pointer (some ⟨p, 0, none⟩)))) := ⟨⟨wr, c1⟩⟩
        have q0 : ∀ m : Qi.SW (fun w' => w'.cell? ⟨g, 1, none⟩ = some (.pointer (some ⟨p, 0, none⟩))), m.w.cell? ⟨g, 1, none⟩ = some (.pointer (some ⟨p, 0, none⟩)) := fun m => m.h
        dsimp only [Qi.wpSegs, Q.picks, Q.pick]
        repeat (go_big_quiet_step (fail))
        refine wpQuiet_nil ?_
        have hbd : Below wr.heap.size wr wr.drew := (Below.refl _ _).drew
        have HSd := Lib.hid (HSr.out.keep hbd)
        have HBd := Lib.hid (HBr.out.trans (hbd.mono HBr.out.size))
        have hcl := S.clone_any (nat H) A3 c3 wr.drew (by rw [nat_length]; exact HC3.out wr.drew HBd.out) (by rw [nat_length]; have := HHl.out; omega)
        rw [nat_length] at hcl
        have HCl := Lib.hid hcl
        clear hbd hcl HSr HBr HC3 q0 c0 c1
        go_wp2_with fail
        refine HCl.out.mono ?_
        rintro e w5 ⟨v5, rfl, hr5, hb5⟩
        obtain ⟨A5, c5, hv5⟩ := Kd.R_slice hr5
        rw [nat_length] at hv5
        subst hv5
        have hC5 := (Kd.R_reads' hr5).2.2
        rw [nat_length] at hC5
        have HR5 := Lib.hid (R_block hr5)
        have HC5 := Lib.hid hC5
        have HS5 := Lib.hid (HSd.out.keep hb5)
        have HB5 := Lib.hid (HBd.out.trans (hb5.mono HBd.out.size))
        have HLq := Lib.hid (show q < wr.drew.heap.size from HSd.out.st.cu.lt)
        clear hr5 hb5 hC5 HCl HSd HBd
        go_wp2_with fail
        refine Qi.ev HS5.out.c1 ?_
        refine wpQuiet_nil ?_
        go_wp2_with fail
        refine (hide_any p q tn N kh H A5 c5 w5 HS5.out.st HTn.out HN.out HKl.out HK8.out HC5.out (fun _ ad e => by have := HR5.out ad e; have := HLq.out; omega) (by have := HHl.out; omega) HH8.out).mono ?_
        rintro e w6 ⟨v6, rfl, hrv, hcu, hg⟩
        rw [HHH.out] at hrv
        obtain ⟨A6, c6, rfl, hc6, hC6, hb6⟩ := hrv.open
        have HS6 := Lib.hid (show SE g p q side kh km nx (tn + cntN 0 H.length) w6 from ⟨(hg.block g HS5.out.lt (fun e => HNe.out.2 (by injection e))).trans HS5.out.blk, HS5.out.st.turned hg hcu, HS5.out.len⟩)
        have HG6 := Lib.hid (show GR g q w w6 from (GR.below HB5.out).trans (GR.grown hg (.inr rfl)))
        have HRO := Lib.hid (show RO plain w.heap.size (.slice A6 plain.length c6) w6 from ⟨A6, c6, rfl, hc6, hC6, fun ad e => Nat.le_trans HB5.out.size (hb6 ad e)⟩)
        clear hrv hcu hg hc6 hC6 hb6 HB5 HC5 HR5 HS5
        go_wp2_with fail
        refine Qi.ev HS6.out.c1 ?_
        repeat (go_big_quiet_step (fail))
        refine wpQuiet_nil ?_
        refine NoPanic.normal ?_
        go_wp2_with fail
        exact bodyPost_ret (v := .tuple #[.int .u64 (n : Int), .slice A6 plain.length c6, .int .i64 0]) (by simp [results, Try.results31]) rfl ⟨_, rfl, HRO.out, by have := HS6.out; rw [HHp.out] at this; exact this, HG6.out⟩
end Go.Proofs.Ytblnclooobggnaa.Se

namespace Go.Proofs.Ytblnclooobggnaa.Se
open Go.RowKit Go.Proofs.Ytblnclooobggnaa.L Go.Proofs.Ytblnclooobggnaa.N Go.Proofs.Ytblnclooobggnaa.A Go.Proofs.Ytblnclooobggnaa.Mc Go.Proofs.YtblnclooobggnaaW.PrintWords

theorem bodN_len (s : Nat) (kh : List Nat) (n : Nat) (b : List Nat) : (bodN s kh n b).length = b.length + 8 := by
  rw [bodN, List.length_append, be8_len, hideN_len]; omega
theorem tag_len (km b : List Nat) : ((markN km b).take 16).length = 16 := by rw [List.length_take, markN_len]; rfl
theorem sealN_len (s : Nat) (kh km : List Nat) (n : Nat) (b : List Nat) : (sealN s kh km n b).length = b.length + 24 := by
  rw [sealN, List.length_append, bodN_len, tag_len]
theorem sealN_lt {kh : List Nat} (hk : ∀ x ∈ kh, x < 256) (s : Nat) (km : List Nat) (n : Nat) {b : List Nat} (hb : ∀ x ∈ b, x < 256) : ∀ x ∈ sealN s kh km n b, x < 256 :=
  app_lt (app_lt (be8_lt _) (hideN_lt hk _ hb)) (fun x hx => markN_lt km _ x (List.mem_of_mem_take hx))
theorem sealN_take (s : Nat) (kh km : List Nat) (n : Nat) (b : List Nat) : (sealN s kh km n b).take ((sealN s kh km n b).length - 16) = bodN s kh n b := by
  rw [sealN_len, show b.length + 24 - 16 = (bodN s kh n b).length from by rw [bodN_len]; omega, sealN]
  exact List.take_left' rfl
theorem sealN_drop (s : Nat) (kh km : List Nat) (n : Nat) (b : List Nat) : (sealN s kh km n b).drop ((sealN s kh km n b).length - 16) = (markN km (bodN s kh n b)).take 16 := by
  rw [sealN_len, show b.length + 24 - 16 = (bodN s kh n b).length from by rw [bodN_len]; omega, sealN]
  exact List.drop_left' rfl
theorem sealN_right (s : Nat) (kh km : List Nat) (n : Nat) (b : List Nat) : rightN km ((sealN s kh km n b).drop ((sealN s kh km n b).length - 16)) ((sealN s kh km n b).take ((sealN s kh km n b).length - 16)) = true := by
  rw [sealN_take, sealN_drop]; exact right_own _ _
theorem sealN_head (s : Nat) (kh km : List Nat) (n : Nat) (b : List Nat) : ∀ k, k < 8 → (sealN s kh km n b).getD k 0 = (be8 (numN s n)).getD k 0 := fun k hk => by
  rw [sealN, bodN, List.append_assoc, List.getD_eq_getElem?_getD, List.getElem?_append_left (by rw [be8_len]; exact hk), ← List.getD_eq_getElem?_getD]
theorem sealN_hid (s : Nat) (kh km : List Nat) (n : Nat) (b : List Nat) : ((sealN s kh km n b).take ((sealN s kh km n b).length - 16)).drop 8 = hideN kh (numN s n) b := by
  rw [sealN_take, bodN]
  exact List.drop_left' (be8_len _)
/-- a datagram of the other side is opened -/
theorem open_sealed (g p q side s2 n nx tn : Nat) (kh km plain : List Nat) (A : Option Addr) (c : Nat) (w : World) (h : SE g p q side kh km nx tn w) (htn : tn < 4611686018427300000) (hk : kh.length = 16) (hk8 : ∀ x ∈ kh, x < 256) (hm8 : ∀ x ∈ km, x < 256) (hp8 : ∀ x ∈ plain, x < 256) (hpl : plain.length ≤ 512) (hne : g ≠ p ∧ g ≠ q) (hst : side + s2 = 1) (hn : 1 ≤ n ∧ n ≤ 9223372036854775807)
    (hC : (Kd.int .u8).C w A (plain.length + 24) (nat (sealN s2 kh km n plain))) (hc : plain.length + 24 ≤ c) :
    Calls Try.prog 31 #[.pointer (some ⟨g, 0, none⟩), .slice A (plain.length + 24) c] w fun e w' => ∃ v, e = .returned (.tuple #[.int .u64 (n : Int), v, .int .i64 0]) ∧ RO plain w.heap.size v w' ∧ SE g p q side kh km nx (tn + cntN 0 plain.length) w' ∧ GR g q w w' := by
  have hl := sealN_len s2 kh km n plain
  have := open_ok g p q side s2 s2 n nx tn kh km (sealN s2 kh km n plain) plain A c w h htn hk hk8 hp8 hpl hne (sealN_hid _ _ _ _ _) hl (by omega) (by omega) hst rfl hn hm8 (by rw [hl]; exact hC) (by omega) (sealN_lt hk8 _ _ _ hp8) (sealN_right _ _ _ _ _) (sealN_head _ _ _ _ _)
  rw [hl] at this
  exact this
end Go.Proofs.Ytblnclooobggnaa.Se
