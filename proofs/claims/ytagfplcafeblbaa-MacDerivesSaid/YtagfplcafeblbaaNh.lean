/-
  append(s, make([]byte, k)...): zeros behind a row of one's own.
-/
import Derived.Test.YtagfplcafeblbaaNg
namespace Go.Proofs.Ytagfplcafeblbaa.N
open Go.RowKit Go.Proofs.Ytagfplcafeblbaa.L Go.Proofs.YtagfplcafeblbaaW.PrintWords

theorem zeroCells_one (k : Nat) : Builtin.zeroCells #[.int .u8 0] k = (List.replicate k (Value.int .u8 0)).toArray := by
  apply Array.ext'
  simp [Builtin.zeroCells]
  apply List.ext_getElem
  · simp
  · intro i h1 h2
    simp [Nat.mod_one]
theorem run_zeros_room (w : World) (ty : TypeId) (g n cap k : Nat) (hk : 0 < k) (hr : n + k ≤ cap) (h48 : k ≤ 281474976710656) (ht : w.there g n k) :
    (Builtin.append_ #[22, 3] ty #[.slice (some ⟨g, 0, none⟩) n cap, .int .i64 (k : Int)]).run Try.prog w = .ok (.slice (some ⟨g, 0, none⟩) (n + k) cap) (w.setCells g n (List.replicate k (.int .u8 0))) := by
  obtain ⟨i0, hi0, hz⟩ := Option.map_eq_some_iff.1 info_u8
  simp only [Prod.mk.injEq] at hz
  obtain ⟨hz0, hz1, hz2⟩ := hz
  have hw : IntKind.i64.wrap (k : Int) = k := IntWalk.i64_in _ (by omega)
  have hneg : ¬ ((k : Int) < 0) := by omega
  have h48i : ¬ (281474976710656 < (k : Int)) := by omega
  have hns : ¬ (k = 0) := by omega
  have hst := run_storeCells_cells (P := Try.prog) g n (List.replicate k (.int .u8 0)) 0 w (fun j hj => by simpa using (ht j (by simpa using hj)).1) (fun j hj => by simpa using (ht j (by simpa using hj)).2) (fun v hv => by rw [List.eq_of_mem_replicate hv]; rfl)
  have hadd : (⟨g, 0, none⟩ : Addr).add n = ⟨g, n, none⟩ := by rw [add_at, Nat.zero_add]
  have hzc := zeroCells_one k
  simp only [Nat.add_zero] at hst
  simp [Builtin.append_, run_underlying Try.underlying22, run_underlying Try.underlying3, sizeOf, typeInfo, zeroValue, hi0, hz0, hz1, hz2, asInt, asIntOf, hw, hneg, h48i, hns, hr, hadd, Value.cells, hzc, hst]
theorem run_zeros_none (w : World) (ty : TypeId) (A : Option Addr) (n cap : Nat) (hr : n ≤ cap) :
    (Builtin.append_ #[22, 3] ty #[.slice A n cap, .int .i64 0]).run Try.prog w = .ok (.slice A n cap) w := by
  obtain ⟨i0, hi0, hz⟩ := Option.map_eq_some_iff.1 info_u8
  simp only [Prod.mk.injEq] at hz
  obtain ⟨hz0, hz1, hz2⟩ := hz
  have hw : IntKind.i64.wrap 0 = 0 := by decide
  cases A <;> simp [Builtin.append_, run_underlying Try.underlying22, run_underlying Try.underlying3, sizeOf, typeInfo, zeroValue, hi0, hz0, hz2, asInt, asIntOf, hw, hr, storeCells]
theorem enc_nat (l : List Nat) : encs (Value.int .u8) (nat l) = (nat l).map (Value.int .u8) := by
  induction nat l with
  | nil => rfl
  | cons x t ih => simp [encs]
theorem grown_drewalloc (w : World) (o : Obj) (row : Option Nat) : w.grownBy (w.drew.alloc o) row := World.grownBy.trans (b := w.drew) ⟨rfl, rfl, rfl, Nat.le_refl _, fun _ _ _ => rfl⟩ (World.grownBy_alloc _ _ _)
theorem zeros_grow (w : World) (ty : TypeId) (A : Option Addr) (cap : Nat) (xs : List Nat) (olds : List Value) (hold : ∀ w' : World, w'.heap = w.heap → (Builtin.firstCells 1 xs.length (.slice A xs.length cap)).run Try.prog w' = .ok olds.toArray w') (holds : olds = (nat xs).map (Value.int .u8))
    (k : Nat) (hk : 0 < k) (hg : cap < xs.length + k) (hl : xs.length + k ≤ 70368744177664) :
    ∃ G cur, (Builtin.append_ #[22, 3] ty #[.slice A xs.length cap, .int .i64 (k : Int)]).run Try.prog w = .ok (.slice (some ⟨w.heap.size, 0, none⟩) (xs.length + k) G) (w.drew.alloc (.cells cur 5)) ∧ xs.length + k ≤ G ∧ G ≤ maxLen ∧ cur.size = G ∧ cur.toList.take (xs.length + k) = (nat (xs ++ List.replicate k 0)).map (Value.int .u8) := by
  obtain ⟨i0, hi0, hz⟩ := Option.map_eq_some_iff.1 info_u8
  simp only [Prod.mk.injEq] at hz
  obtain ⟨hz0, hz1, hz2⟩ := hz
  have hr := Lib.run_append_grow_zeros (P := Try.prog) w 22 3 ty 5 i0 _ .i64 .i64 Try.underlying22 Try.underlying3 hi0 hz0 A xs.length cap olds (by rw [hz1]; exact hold w.drew rfl) k hk (by omega) hg (by omega) (by rw [hz2]; omega) (by rw [hz2]; exact growslice_fits hg (by omega))
  have hge := grownCap_ge w (xs.length + k) cap 5
  have hle := grownCap_le_maxLen w (xs.length + k) cap 5 (by unfold maxLen; omega)
  generalize grownCap w (xs.length + k) cap 5 = G at *
  refine ⟨G, _, hr, hge, hle, ?_, ?_⟩
  · subst holds
    have hzz : (Value.int IntKind.u8 0).cells = #[Value.int .u8 0] := rfl
    rw [hzz, zeroCells_one, zeroCells_one]
    simp [nat_length]
    omega
  · subst holds
    have hzz : (Value.int IntKind.u8 0).cells = #[Value.int .u8 0] := rfl
    rw [hzz, zeroCells_one, zeroCells_one]
    rw [Array.toList_append, Array.toList_append, List.take_append_of_le_length (by simp [nat_length])]
    rw [List.take_of_length_le (by simp [nat_length])]
    simp [nat]
theorem zeros_own {w : World} {g G B n : Nat} {cur : Array Value} (h : w.heap[g]? = some (.cells cur 5 (0, 0))) (hB : B ≤ g) (l : List Nat) (hn : l.length = n) (hg : n ≤ G) (hm : G ≤ maxLen) (hs : cur.size = G) (ht : cur.toList.take n = (nat l).map (Value.int .u8)) :
    (Kd.int .u8).R 5 w B (fun _ => True) (.slice (some ⟨g, 0, none⟩) n G) (nat l) := by
  subst hn
  have e : (nat l).length = l.length := nat_length l
  exact Kd.R_of_own (enc := Value.int .u8) ⟨by simp [encs], .inr ⟨g, G, cur, by rw [e], hB, h, by rw [e]; exact hg, hm, by rw [hs, Nat.mul_one], by rw [e, Nat.mul_one, enc_nat]; exact ht⟩⟩ (fun _ _ => trivial)
section
variable {ops : Array Oper} {rest : List Oper} {o : Oper} {a : Act} {Q : Exit → Act → World → Prop}
theorem app_zeros {w0 W : World} (B : Nat) (s x : Operand) (hgd : o.guard = none) (ho : o.op = .call { callee := .builtin .append, args := #[s, x], argTypes := #[22, 3] })
    (v : Value) (xs : List Nat) (k : Nat) (hs : a.eval s = v) (hx : a.eval x = .int .i64 (k : Int)) (HO : (Kd.int .u8).R 5 W B (fun _ => True) v (nat xs)) (HB : Below B w0 W) (hB : B ≤ W.heap.size) (hl : xs.length + k ≤ 70368744177664)
    (h : ∀ v1 w1, (Kd.int .u8).R 5 w1 B (fun _ => True) v1 (nat (xs ++ List.replicate k 0)) → Below B w0 w1 → W.grownBy w1 v.ownBlock → wpList Try.prog ops Q rest (a.put o.dst v1) w1) : wpList Try.prog ops Q (o :: rest) a W := by
  obtain ⟨inner, ho2⟩ := Kd.R_own HO
  have hown : W.ownsRow B 5 1 v (nat xs).length (encs (Value.int .u8) (nat xs)) := Kd.own_of_R HO
  rcases Nat.eq_zero_or_pos k with h0 | h0
  · subst h0
    obtain ⟨A, c, hv, hc, _⟩ := Kd.R_reads HO
    have hr := run_zeros_none W o.type A (nat xs).length c hc
    rw [← hv] at hr
    refine Lib.wpList_append_run W hgd s x _ _ ho v (.int .i64 0) hs hx _ _ hr ?_
    exact h v W (by simpa using HO) HB (World.grownBy.refl _ _)
  · rcases hown.2 with ⟨hv, hn⟩ | ⟨g, cap, cur, hv, hBg, hg, hnc, hcm, hcs, htk⟩
    · have hx0 : xs = [] := by
        rw [nat_length] at hn
        exact List.eq_nil_of_length_eq_zero hn
      subst hx0
      obtain ⟨G, cur, hr, hge, hle, hcs, htk⟩ := zeros_grow W o.type none 0 [] [] (fun w' _ => run_firstCells_none (w := w') 1 0 0 0) rfl k h0 (by simpa using h0) hl
      rw [hv] at hs
      refine Lib.wpList_append_run W hgd s x _ _ ho _ (.int .i64 (k : Int)) hs hx _ _ hr ?_
      refine h _ _ ?_ ((HB.drew).alloc hB _) (by rw [hv]; exact grown_drewalloc _ _ _)
      exact zeros_own (heap_alloc_new W.drew _) (by simpa using hB) _ (by simp) hge hle hcs htk
    · rw [nat_length] at hv hnc htk
      by_cases hroom : xs.length + k ≤ cap
      · have hcs' : cur.size = cap := by simpa using hcs
        have hr := run_zeros_room W o.type g xs.length cap k h0 hroom (by omega) (there_blk (cs := cur.toList) (by simpa using hg) (by simp; omega))
        rw [← hv] at hr
        refine Lib.wpList_append_run W hgd s x _ _ ho v (.int .i64 (k : Int)) hs hx _ _ hr ?_
        have hgr := setCells_grown g (List.replicate k (.int .u8 0)) xs.length W
        have hblk := setCells_blk g 5 (List.replicate k (.int .u8 0)) xs.length cur.toList W (by simpa using hg) (by simp; omega)
        refine h _ _ ?_ (below_grown HB hB hgr hBg) (by rw [hv]; exact hgr)
        refine zeros_own hblk hBg _ (by simp) hroom hcm (by simp [splice]; omega) ?_
        rw [enc_nat] at htk
        rw [Nat.mul_one] at htk
        simp only [splice]
        rw [List.toList_toArray, htk, ← List.append_assoc, List.take_append_of_le_length (by simp [nat]), List.take_of_length_le (by simp [nat])]
        simp [nat]
      · have hcs' : cur.size = cap := by simpa using hcs
        rw [enc_nat, Nat.mul_one] at htk
        have hc : ∀ (j : Nat) (u : Value), ((nat xs).map (Value.int .u8))[j]? = some u → cur.toList[j]? = some u := by
          intro j u hj
          rw [← htk] at hj
          rw [List.getElem?_take] at hj
          split at hj
          · exact hj
          · exact absurd hj (by simp)
        obtain ⟨G, cur2, hr, hge, hle, hcs2, htk2⟩ := zeros_grow W o.type (some ⟨g, 0, none⟩) cap xs ((nat xs).map (Value.int .u8)) (fun w' hw' => run_firstCells_some (w := w') 1 xs.length ⟨g, 0, none⟩ xs.length cap ((nat xs).map (Value.int .u8)) (by simp [nat]) (fun j u hj => by
          have := hc j u hj
          rw [add_at, Nat.zero_add]
          rw [blk_cell (show w'.heap[g]? = some (.cells cur 5 (0, 0)) by rw [hw']; exact hg), ← Array.getElem?_toList]
          exact this)) rfl k h0 (by omega) hl
        rw [hv] at hs
        refine Lib.wpList_append_run W hgd s x _ _ ho _ (.int .i64 (k : Int)) hs hx _ _ hr ?_
        refine h _ _ ?_ ((HB.drew).alloc hB _) (by rw [hv]; exact grown_drewalloc _ _ _)
        exact zeros_own (heap_alloc_new W.drew _) (by simpa using hB) _ (by simp) hge hle hcs2 htk2
end
end Go.Proofs.Ytagfplcafeblbaa.N
