/-
  Bytes: slices.Grow and slices.Concat; rows that are made.
-/
import Derived.Test.YtagfplcafeblbaaNe
import Derived.Lib.AppendZerosOnto
import Derived.Deep.OwnRows
import Derived.Laws.OwnMore
namespace Go.Proofs.Ytagfplcafeblbaa.N
open Go.RowKit Go.Proofs.Ytagfplcafeblbaa.L Go.Proofs.YtagfplcafeblbaaW.PrintWords

/-- a block that is known whole, as a row of one's own -/
theorem AB.own {t : TypeId} {b B : Nat} {l : List Nat} {w : World} (h : AB .u8 t b l w) (hB : B ≤ b) (hl : l.length ≤ maxLen) : (Kd.int .u8).R t w B (fun _ => True) (.slice (some ⟨b, 0, none⟩) l.length l.length) (nat l) := by
  have := R_of_blk (w := w) (b := b) (B := B) (k := .u8) (e := t) (l := nat l) (by
    rw [show (List.map (Value.int .u8) (nat l)).toArray = arr .u8 l from by simp [arr, nat]]
    exact h) hB (by rw [nat_length]; exact hl)
  rwa [nat_length] at this
/-- the same, read -/
theorem AB.row {t : TypeId} {b : Nat} {l : List Nat} {w : World} (h : AB .u8 t b l w) (hl : l.length ≤ maxLen) : (Kd.int .u8).C w (some ⟨b, 0, none⟩) l.length (nat l) := by
  have := (Kd.R_reads' (h.own (Nat.zero_le _) hl)).2.2
  rwa [nat_length] at this
/-- what a copy reads -/
theorem row_src {k : IntKind} {w : World} {A : Option Addr} {l : List Nat} (h : (Kd.int k).C w A l.length (nat l)) (h0 : 0 < l.length) : ∃ ad, A = some ad ∧ ∀ j, j < l.length → w.cell? (ad.add j) = some (.int k (l.getD j 0 : Nat)) := by
  obtain ⟨b, off, e, _, hc⟩ := B_at h h0
  exact ⟨⟨b, off, none⟩, e, fun j hj => by rw [add_at]; exact hc j hj⟩
/-- a row of rows is a row of slices -/
theorem RB_to_S {w : World} {A : Option Addr} {L : List (List Nat)} (h : RB w A L) (hL : L.length ≤ 9223372036854775807) : ∃ ps, ps.length = L.length ∧ kSl.C w A L.length ps ∧ PS w ps L := by
  have key : ∀ j : Nat, ∃ p : Option Addr × Nat × Nat, j < L.length → (p.2.1 = (L.getD j []).length ∧ (Kd.int .u8).C w p.1 (L.getD j []).length (nat (L.getD j [])) ∧ (∀ x ∈ L.getD j [], x < 256) ∧ (L.getD j []).length ≤ p.2.2) ∧ ∃ b off, A = some ⟨b, off, none⟩ ∧ w.cell? ⟨b, off + j, none⟩ = some (.slice p.1 p.2.1 p.2.2) := fun j => by
    by_cases hj : j < L.length
    · obtain ⟨b, off, Aj, cj, e, _, hc, hC, h8, hcap⟩ := h j hj
      exact ⟨(Aj, (L.getD j []).length, cj), fun _ => ⟨⟨rfl, hC, h8, hcap⟩, b, off, e, hc⟩⟩
    · exact ⟨(none, 0, 0), fun hh => absurd hh hj⟩
  obtain ⟨f, hf⟩ := Classical.axiomOfChoice key
  have hlen : ((List.range L.length).map f).length = L.length := by simp
  have hget : ∀ j, j < L.length → ((List.range L.length).map f).getD j (none, 0, 0) = f j := fun j hj => by
    rw [List.getD_eq_getElem?_getD, List.getElem?_map, List.getElem?_range hj]
    rfl
  refine ⟨(List.range L.length).map f, hlen, ?_, hlen, fun j hj => ?_⟩
  · refine ⟨hlen, hL, fun h0 => ?_⟩
    obtain ⟨_, b, off, e, _⟩ := hf 0 h0
    refine ⟨⟨b, off, none⟩, e, fun j p hp => ?_⟩
    have hj : j < L.length := by have := (List.getElem?_eq_some_iff.1 hp).1; omega
    have hpe : p = f j := by
      have := hget j hj
      rw [List.getD_eq_getElem?_getD, hp] at this
      exact this
    subst hpe
    obtain ⟨_, b', off', e', hc⟩ := hf j hj
    rw [e] at e'
    injection e' with e'
    injection e' with e1 e2
    subst e1
    subst e2
    refine ⟨[.slice (f j).1 (f j).2.1 (f j).2.2], rfl, rfl, fun i u hu => ?_⟩
    have hi : i = 0 := by have := (List.getElem?_eq_some_iff.1 hu).1; simpa using this
    subst hi
    rw [add_at, show kSl.sz = 1 from rfl, Nat.mul_one, Nat.add_zero, hc]
    exact hu
  · rw [hget j hj]
    exact (hf j hj).1
theorem PS.app {w : World} {ps qs : List (Option Addr × Nat × Nat)} {L M : List (List Nat)} (h : PS w ps L) (h2 : PS w qs M) : PS w (ps ++ qs) (L ++ M) := by
  refine ⟨by simp [h.1, h2.1], fun j hj => ?_⟩
  by_cases hl : j < L.length
  · have e1 : (ps ++ qs).getD j (none, 0, 0) = ps.getD j (none, 0, 0) := by rw [List.getD_eq_getElem?_getD, List.getElem?_append_left (by rw [h.1]; exact hl), ← List.getD_eq_getElem?_getD]
    have e2 : (L ++ M).getD j [] = L.getD j [] := by rw [List.getD_eq_getElem?_getD, List.getElem?_append_left hl, ← List.getD_eq_getElem?_getD]
    rw [e1, e2]
    exact h.2 j hl
  · have hj' : j - L.length < M.length := by rw [List.length_append] at hj; omega
    have e1 : (ps ++ qs).getD j (none, 0, 0) = qs.getD (j - L.length) (none, 0, 0) := by rw [List.getD_eq_getElem?_getD, List.getElem?_append_right (by rw [h.1]; omega), h.1, ← List.getD_eq_getElem?_getD]
    have e2 : (L ++ M).getD j [] = M.getD (j - L.length) [] := by rw [List.getD_eq_getElem?_getD, List.getElem?_append_right (by omega), ← List.getD_eq_getElem?_getD]
    rw [e1, e2]
    exact h2.2 _ hj'
theorem PS.one {w : World} {A : Option Addr} {c n : Nat} {l : List Nat} (hn : l.length = n) (hC : (Kd.int .u8).C w A n (nat l)) (h8 : ∀ x ∈ l, x < 256) (hc : n ≤ c) : PS w [(A, n, c)] [l] := by
  subst hn
  exact (PS.nil w).snoc hC h8 hc
/-- a literal of one slice -/
theorem kSl_lit {w : World} {g B : Nat} {A : Option Addr} {n c : Nat} (h : w.heap[g]? = some (.cells #[.slice A n c] 22 (0, 0))) (hB : B ≤ g) : kSl.R 22 w B (fun _ => True) (.slice (some ⟨g, 0, none⟩) 1 1) [(A, n, c)] :=
  Kd.R_of_own (enc := fun p : Option Addr × Nat × Nat => Value.slice p.1 p.2.1 p.2.2) ⟨by simp [encs], .inr ⟨g, 1, _, rfl, hB, h, Nat.le_refl _, by decide, by simp, by simp [encs]⟩⟩ (fun _ _ => trivial)
theorem or_zero {v x y : Nat} : v ||| (x ^^^ y) = 0 ↔ v = 0 ∧ x = y := by
  constructor
  · intro h
    have h1 : v ≤ 0 := h ▸ Nat.left_le_or
    have h2 : x ^^^ y ≤ 0 := h ▸ Nat.right_le_or
    have h3 : x ^^^ y = 0 := by omega
    refine ⟨by omega, ?_⟩
    have : x ^^^ y ^^^ y = 0 ^^^ y := by rw [h3]
    rwa [Nat.xor_assoc, Nat.xor_self, Nat.xor_zero, Nat.zero_xor] at this
  · rintro ⟨rfl, rfl⟩
    simp
theorem RB_lt {w : World} {A : Option Addr} {L : List (List Nat)} (h : RB w A L) : ∀ x ∈ L.flatten, x < 256 := by
  intro x hx
  obtain ⟨y, hy, hxy⟩ := List.mem_flatten.1 hx
  obtain ⟨j, hj, rfl⟩ := List.mem_iff_getElem.1 hy
  obtain ⟨_, _, _, _, _, _, _, _, h8, _⟩ := h j hj
  rw [List.getD_eq_getElem?_getD, List.getElem?_eq_getElem hj] at h8
  exact h8 x hxy
theorem made_arr (k : IntKind) (n : Nat) : madeCells #[.int k 0] n = arr k (List.replicate n 0) := by
  apply Array.ext'
  rw [toList_madeCells_one]
  simp [arr]
/-- make([]byte, n) -/
theorem make_b (n : Nat) (N : Int) (hN : N = (n : Int)) (hn : n ≤ 281474976710656) (w : World) : (Instr.makeSlice 22 (.int .i64 N) (.int .i64 N)).run Try.prog w = .ok (.slice (some ⟨w.heap.size, 0, none⟩) n n) (w.alloc (.cells (arr .u8 (List.replicate n 0)) 5)) := by
  subst hN
  rw [← made_arr]
  exact run_make_row' 22 5 (.int .u8 0) 1 Try.underlying22 info_u8 rfl .i64 .i64 n (by omega) (by omega) w
theorem splice_front {α : Type} (Z cs : List α) : splice Z 0 cs = cs ++ Z.drop cs.length := by simp [splice]
set_option maxHeartbeats 1600000 in
set_option maxRecDepth 100000 in
theorem grow_any (n : Nat) (w : World) (hn : n ≤ 1000000000000) :
    Calls Try.prog 63 #[.slice none 0 0, .int .i64 n] w fun e w' => ∃ v, e = .returned v ∧ (Kd.int .u8).R 5 w' w.heap.size (fun _ => True) v [] ∧ Below w.heap.size w w' := by
  rcases Nat.eq_zero_or_pos n with h0 | h0
  · subst h0
    go_enter Try.func63, Try.ntmps63
    go_wp2
    go_ret
    exact ⟨_, rfl, Kd.R_nil _ _ _ _ _, Below.refl _ _⟩
  · obtain ⟨i0, hi0, hz⟩ := Option.map_eq_some_iff.1 info_u8
    simp only [Prod.mk.injEq] at hz
    obtain ⟨hz0, hz1, hz2⟩ := hz
    have hfit : Builtin.nextslicecap (0 + n) 0 * i0.bytes ≤ 281474976710656 := by
      rw [hz2]
      simp only [Builtin.nextslicecap]
      rw [if_pos (by omega)]
      omega
    have hrz := fun ty => Lib.run_append_grow_zeros (P := Try.prog) w 22 3 ty 5 i0 _ .i64 .i64 Try.underlying22 Try.underlying3 hi0 hz0 none 0 0 [] (by exact run_firstCells_none w.drew i0.size 0 0 0) n h0 (by omega) (by omega) (by omega) (by rw [hz2]; omega) hfit
    have hge := grownCap_ge w (0 + n) 0 5
    have hle := grownCap_le_maxLen w (0 + n) 0 5 (by unfold maxLen; omega)
    generalize grownCap w (0 + n) 0 5 = G at *
    have hG63 : G ≤ 9223372036854775807 := by unfold maxLen at hle; exact hle
    have t1 : decide ((n : Int) < 0) = false := decide_eq_false (by omega)
    have t2 : decide ((0 : Int) < (n : Int)) = true := decide_eq_true (by omega)
    have HE := Lib.hid hge
    have HL := Lib.hid hle
    simp only [Nat.zero_add] at hrz
    clear hge hle hfit hz0 hz1 hz2 hi0
    go_enter Try.func63, Try.ntmps63
    go_wp2_with (at_builtin; refine Lib.wpList_append_run _ rfl _ _ _ _ rfl _ _ rfl rfl _ _ (hrz _) ?_)
    go_ret
    refine ⟨_, rfl, ⟨fun _ _ => trivial, [], ⟨by simp, .inr ⟨w.heap.size, G, _, rfl, Nat.le_refl _, heap_alloc_new w.drew _, Nat.zero_le _, HL.out, ?_, by simp⟩⟩, Reps.none _ _⟩, ((Below.refl _ _).drew).alloc (Nat.le_refl _) _⟩
    have := HE.out
    show _ = G * 1
    simp [Builtin.zeroCells]
    omega
set_option maxHeartbeats 3200000 in
set_option maxRecDepth 100000 in
/-- slices.Concat of rows of bytes -/
theorem concat_any (L : List (List Nat)) (A : Option Addr) (c : Nat) (w : World) (h : RB w A L) (hL : L.length ≤ 1000000000) (hlen : L.flatten.length ≤ 1000000000000) :
    Calls Try.prog 50 #[.slice A L.length c] w fun e w' => ∃ v, e = .returned v ∧ (Kd.int .u8).R 5 w' w.heap.size (fun _ => True) v (nat L.flatten) ∧ Below w.heap.size w w' := by
  have HR := Lib.hid h
  have HLen := Lib.hid hlen
  have z1 : (L.length : Int) ≤ 1000000000 := by omega
  clear h hlen
  go_enter Try.func50, Try.ntmps50
  go_wp2_with fail
  go_loopg [3, 11] (L.length + 1) (fun g v3 v11 w' => ∃ i n : Nat, v11 = .int .i64 i ∧ v3 = .int .i64 n ∧ Hid (i ≤ L.length ∧ L.length < g + i) ∧ Hid (n = (L.take i).flatten.length) ∧ Hid (w = w'))
  case atStart => exact ⟨0, 0, rfl, rfl, Lib.hid ⟨by omega, by omega⟩, Lib.hid rfl, Lib.hid rfl⟩
  case round =>
    obtain ⟨i, n, rfl, rfl, HJ, HN, HW⟩ := hrel
    obtain rfl := HW.out
    clear HW
    cases gk with
    | zero => have := HJ.out; omega
    | succ k =>
      by_cases hlt : i < L.length
      · have HJ' := Lib.hid (show i < L.length ∧ L.length < (k + 1) + i from ⟨hlt, HJ.out.2⟩)
        obtain ⟨bp, off, Aj, cj, rfl, hbp, hc, hC, h8, _⟩ := HR.out i hlt
        have hft := flatten_take hlt
        have hle := flatten_take_le L (i + 1)
        have hn := congrArg List.length hft
        rw [List.length_append, ← HN.out] at hn
        obtain ⟨x, hx⟩ : ∃ x, L.getD i [] = x := ⟨_, rfl⟩
        rw [hx] at hc hn
        have z2 : (0 : Int) ≤ (i : Int) := by omega
        have z3 : (i : Int) < (L.length : Int) := by omega
        have z4 : (n : Int) + (x.length : Int) ≤ 1000000000000 := by have := HLen.out; omega
        have z5 : decide ((n : Int) + (x.length : Int) < 0) = false := decide_eq_false (by omega)
        have HNn := Lib.hid hn
        clear hft hle hn hx hC h8 hlt HJ
        go_wp2_with fail
        go_roundg k
        case measure => have := HJ'.out; omega
        case rel => exact ⟨i + 1, n + x.length, by go_num, by go_num, Lib.hid (by have := HJ'.out; omega), Lib.hid HNn.out.symm, Lib.hid rfl⟩
      · have hi : i = L.length := by have := HJ.out; omega
        subst hi
        have hn := HN.out
        rw [List.take_length] at hn
        have HQ := Lib.hid (grow_any n w (by rw [hn]; exact HLen.out))
        clear hn hlt HJ HN
        go_wp2_with fail
        refine HQ.out.mono ?_
        rintro e w1 ⟨v1, rfl, hr1, hb1⟩
        have HR1 := Lib.hid hr1
        have HB1 := Lib.hid hb1
        clear hr1 hb1 HQ
        go_wp2_with fail
        go_loopg [6, 27] (L.length + 1) (fun g v6 v27 w' => ∃ i : Nat, v27 = .int .i64 i ∧ Hid (i ≤ L.length ∧ L.length < g + i) ∧ Hid ((Kd.int .u8).R 5 w' w.heap.size (fun _ => True) v6 (nat (L.take i).flatten)) ∧ Hid (Below w.heap.size w w'))
        case atStart => exact ⟨0, rfl, Lib.hid ⟨by omega, by omega⟩, HR1, HB1⟩
        case round =>
          obtain ⟨i, rfl, HJ, HR2, HB⟩ := hrel
          clear HR1 HB1
          cases gk with
          | zero => have := HJ.out; omega
          | succ k2 =>
            by_cases hlt : i < L.length
            · have HJ' := Lib.hid (show i < L.length ∧ L.length < (k2 + 1) + i from ⟨hlt, HJ.out.2⟩)
              obtain ⟨bp, off, Aj, cj, rfl, hbp, hc, hC, h8, _⟩ := HR.out i hlt
              have hc1 := (HB.out.cell (p := ⟨bp, off + i, none⟩) hbp).trans hc
              have hft := flatten_take hlt
              have hle := flatten_take_le L (i + 1)
              have hn := congrArg List.length hft
              rw [List.length_append] at hn
              have HC1 := Lib.hid (Kd.C_below hC HB.out)
              have hsz : ((nat (L.take i).flatten).length + (L.getD i []).length) * 1 ≤ 140737488355328 := by rw [nat_length]; have := HLen.out; omega
              have HSz := Lib.hid hsz
              have HFt := Lib.hid hft
              have z2 : (0 : Int) ≤ (i : Int) := by omega
              have z3 : (i : Int) < (L.length : Int) := by omega
              clear hft hle hn hC h8 hlt HJ hc hbp hsz
              generalize L.getD i [] = x at hc1 HC1 HSz HFt
              go_wp2_with (at_builtin; refine appn (w0 := w) .u8 w.heap.size (.tmp 31) (.tmp 32) 22 5 1 rfl rfl Try.underlying22 info_u8 (by decide) _ (nat (L.take i).flatten) (nat x) Aj x.length cj rfl rfl HR2.out HC1.out HB.out HB.out.size HSz.out ?_; intro v4 w4 hr4 hb4 _; (have HR4 := Lib.hid hr4); (have HB4 := Lib.hid hb4); clear hr4 hb4)
              go_roundg k2
              case measure => have := HJ'.out; omega
              case rel => exact ⟨i + 1, by go_num, Lib.hid (by have := HJ'.out; omega), Lib.hid (by rw [HFt.out, nat_app]; exact HR4.out), HB4⟩
            · have hi : i = L.length := by have := HJ.out; omega
              subst hi
              have hr := HR2.out
              rw [List.take_length] at hr
              have HRr := Lib.hid hr
              clear hr
              go_wp2_with fail
              go_ret
              exact ⟨_, rfl, HRr.out, HB.out⟩
end Go.Proofs.Ytagfplcafeblbaa.N
