/-
  Equality of arrays of numbers; rows of bytes that are built on the spot.
-/
import Derived.Test.YtagfplcafeblbaaNt
import Derived.DeepKeys
import Derived.Laws.StructEq
import Derived.Lib.SlBytesConst
namespace Go.Proofs.Ytagfplcafeblbaa.N
open Go.RowKit Go.Proofs.Ytagfplcafeblbaa.L Go.Proofs.YtagfplcafeblbaaW.PrintWords

theorem part_arr {P : Program} {e : TypeId} {k' : IntKind} (he : P.underlying e = some (.int k')) (k : IntKind) (l : List Nat) {i : Nat} (h : i < l.length) (W : World) : (part e (arr k l) i).run P W = .ok (.int k (l.getD i 0 : Nat)) W := by
  have hagg : (isAgg e).run P W = .ok false W := by
    unfold isAgg
    rw [Sem.run_bind, run_underlying he W]
    rfl
  simp only [part, Sem.run_bind, hagg, Result.andThen_ok, arr_get? k l h]
  rfl
theorem eqItems_arr {P : Program} {e : TypeId} {k' : IntKind} (he : P.underlying e = some (.int k')) (k : IntKind) (l m : List Nat) (d : Nat) (W : World) : ∀ is : List Nat, (∀ i ∈ is, i < l.length ∧ i < m.length) →
    (Op.eqItems (d + 1) e 1 (arr k l) (arr k m) is).run P W = .ok (decide (∀ i ∈ is, l.getD i 0 = m.getD i 0)) W
  | [], _ => by simp [Op.eqItems]
  | i :: is, h => by
    have hi := h i (by simp)
    have ih := eqItems_arr he k l m d W is (fun j hj => h j (by simp [hj]))
    simp only [Op.eqItems, Sem.run_bind, Nat.mul_one, part_arr he k l hi.1, part_arr he k m hi.2, run_equalIn_int W d e k k' _ _ he, Result.andThen_ok]
    by_cases hx : l.getD i 0 = m.getD i 0
    · have h1 : (((l.getD i 0 : Nat) : Int) == ((m.getD i 0 : Nat) : Int)) = true := by rw [hx]; exact beq_self_eq_true _
      rw [h1]
      simp only [Bool.not_true, Bool.false_eq_true, if_false, ih]
      congr 1
      rw [decide_eq_decide]
      simp only [List.mem_cons, forall_eq_or_imp, hx, true_and]
    · have h1 : (((l.getD i 0 : Nat) : Int) == ((m.getD i 0 : Nat) : Int)) = false := by rw [beq_eq_false_iff_ne]; omega
      rw [h1]
      simp only [Bool.not_false, if_true]
      rw [decide_eq_false (fun hh => hx (hh i (by simp)))]
      rfl
theorem eq_arr {P : Program} {t e : TypeId} {n : Nat} {k' : IntKind} (hu : P.underlying t = some (.array n e)) (he : P.underlying e = some (.int k')) (hs : (P.info? e).map (·.size) = some 1) (hc : P.cellsOf e = 1) (k : IntKind) (l m : List Nat) (hl : l.length = n) (hm : m.length = n) (d : Nat) (W : World) :
    (Op.equalIn (d + 1 + 1) t (.agg (arr k l)) (.agg (arr k m))).run P W = .ok (decide (l = m)) W := by
  obtain ⟨i, hi, _⟩ := Option.map_eq_some_iff.1 hs
  rw [run_equalIn_array W (d + 1) _ _ hu hi, hc, eqItems_arr he k l m d W _ (fun j hj => by rw [List.mem_range] at hj; omega)]
  congr 1
  rw [decide_eq_decide]
  constructor
  · intro h
    refine List.ext_getElem (by omega) (fun j h1 h2 => ?_)
    have := h j (by rw [List.mem_range]; omega)
    simpa [List.getD_eq_getElem?_getD, List.getElem?_eq_getElem h1, List.getElem?_eq_getElem h2] using this
  · rintro rfl _ _
    rfl
theorem eq_arr' {P : Program} {t e : TypeId} {n : Nat} {k' : IntKind} (hu : P.underlying t = some (.array n e)) (he : P.underlying e = some (.int k')) (hs : (P.info? e).map (·.size) = some 1) (hc : P.cellsOf e = 1) (k : IntKind) (l m : List Nat) (hl : l.length = n) (hm : m.length = n) (W : World) :
    (Op.equalIn 10000 t (.agg (arr k l)) (.agg (arr k m))).run P W = .ok (decide (l = m)) W := eq_arr hu he hs hc k l m hl hm 9998 W
/-- a literal of bytes -/
theorem C_lit (l : List Nat) (W : World) (fr : Nat × Nat) (hl : l.length ≤ 1000) : (Kd.int .u8).C (W.alloc (.cells (arr .u8 l) 5 fr)) (some ⟨W.heap.size, 0, none⟩) l.length (nat l) := by
  refine Kd.C_of_reads (d := (0 : Int)) ⟨nat_length l, by omega, fun _ => ⟨_, rfl, fun j hj => ?_⟩⟩
  rw [add_at, World.cell?_alloc_mark]
  simp only [Nat.zero_add]
  rw [arr_get? .u8 l hj, nat_get hj]
theorem cv_at (w : World) (C : Array Value) (n c g : Nat) (hg : g = w.heap.size) :
    (convert 22 22 (.slice (some ⟨g, 0, none⟩) n c)).run Try.prog (w.alloc (.cells C 5)) = .ok (.slice (some ⟨g, 0, none⟩) n c) (w.alloc (.cells C 5 (C.size, C.size + 1))) := by
  subst hg; exact Lib.run_convert_bytes_const w _ _ C n c Try.underlying22 Try.underlying5
/-- rows in a block that is known -/
theorem RB_blk {w : World} {b : Nat} {cs : Array Value} {t : TypeId} {fr : Nat × Nat} {L : List (List Nat)} (h : w.heap[b]? = some (.cells cs t fr))
    (hr : ∀ j, j < L.length → ∃ Aj cj, cs[j]? = some (.slice Aj (L.getD j []).length cj) ∧ (Kd.int .u8).C w Aj (L.getD j []).length (nat (L.getD j [])) ∧ (∀ x ∈ L.getD j [], x < 256) ∧ (L.getD j []).length ≤ cj) : RB w (some ⟨b, 0, none⟩) L := fun j hj => by
  obtain ⟨Aj, cj, h1, h2, h3, h4⟩ := hr j hj
  refine ⟨b, 0, Aj, cj, rfl, (Array.getElem?_eq_some_iff.1 h).1, ?_, h2, h3, h4⟩
  rw [Nat.zero_add]
  have : w.cell? ⟨b, j, none⟩ = cs[j]? := by simp [World.cell?, h]
  rw [this, h1]
theorem alloc_size (w : World) (o : Obj) : (w.alloc o).heap.size = w.heap.size + 1 := by simp
/-- a block that is made, seen from the world before, one stored into it -/
theorem below_new {w w1 : World} {o : Obj} (hg : (w.alloc o).grownBy w1 (some w.heap.size)) : Below w.heap.size w w1 ∧ w.heap.size + 1 ≤ w1.heap.size :=
  ⟨below_grown ((Below.refl _ _).alloc (Nat.le_refl _) _) (by rw [alloc_size]; omega) hg (Nat.le_refl _), by have := hg.size; rwa [alloc_size] at this⟩
/-- one row -/
theorem RB_one {w : World} {A : Option Addr} {c : Nat} {l : List Nat} (t : TypeId) (hC : (Kd.int .u8).C w A l.length (nat l)) (hl : ∀ x ∈ l, x < 256) (hc : l.length ≤ c) : RB (w.alloc (.cells #[.slice A l.length c] t)) (some ⟨w.heap.size, 0, none⟩) [l] :=
  RB_blk (heap_alloc_new w _) (fun j hj => by
    have : j = 0 := by simpa using hj
    subst this
    exact ⟨A, c, rfl, Kd.C_alloc hC _, hl, hc⟩)
/-- an argument that is a row of rows -/
theorem RB_of_C {w : World} {A : Option Addr} {L : List (List Int)} (h : (Kd.slice 5 (Kd.int .u8)).C w A L.length L) (hL : ∀ x ∈ L, ∀ y ∈ x, 0 ≤ y ∧ y < 256) :
    ∃ M : List (List Nat), M.length = L.length ∧ RB w A M ∧ L.length ≤ 9223372036854775807 ∧ ∀ x ∈ M, ∃ y ∈ L, x = toN y := by
  refine ⟨L.map toN, by simp, fun j hj => ?_, h.2.1, fun x hx => ?_⟩
  · have hj' : j < L.length := by simpa using hj
    obtain ⟨ad, c, e, _, ⟨A1, n1, rfl, hn, hA⟩, hc⟩ := Kd.C_get h ([] : List Int) j (by omega) (by omega)
    simp only [Int.toNat_natCast] at hc hn hA
    obtain ⟨b, off, spot⟩ := ad
    have hc0 := hc 0 _ rfl
    have hs : spot = none := by
      obtain ⟨ad2, c2, e2, _, ⟨A2, n2, rfl, _, _⟩, hc2⟩ := Kd.C_get h ([] : List Int) 0 (by omega) (by omega)
      rw [e] at e2
      injection e2 with e2
      subst e2
      have := World.cell?_spot (hc2 0 _ rfl)
      simpa [Addr.add] using this
    subst hs
    rw [add_at] at hc0
    simp only [show (Kd.slice 5 (Kd.int .u8)).sz = 1 from rfl, Nat.mul_one, Nat.add_zero] at hc0
    have hg : (L.map toN).getD j [] = toN (L.getD j []) := by
      rw [List.getD_eq_getElem?_getD, List.getElem?_map, List.getD_eq_getElem?_getD, List.getElem?_eq_getElem hj']
      rfl
    have hm : L.getD j [] ∈ L := by
      rw [List.getD_eq_getElem?_getD, List.getElem?_eq_getElem hj']
      exact List.getElem_mem hj'
    rw [hg, toN_length, nat_toN (fun x hx => (hL _ hm x hx).1)]
    refine ⟨b, off, A1, n1, e, ?_, hc0, hA, toN_lt (hL _ hm), hn⟩
    exact World.block_lt_of_cell? w _ hc0
  · obtain ⟨y, hy, rfl⟩ := List.mem_map.1 hx
    exact ⟨y, hy, rfl⟩
theorem RB.take {w : World} {A : Option Addr} {L : List (List Nat)} (h : RB w A L) (n : Nat) : RB w A (L.take n) := fun j hj => by
  have hl : j < L.length := by rw [List.length_take] at hj; omega
  have hn : j < n := by rw [List.length_take] at hj; omega
  have hg : (L.take n).getD j [] = L.getD j [] := by rw [List.getD_eq_getElem?_getD, List.getElem?_take_of_lt hn, ← List.getD_eq_getElem?_getD]
  rw [hg]
  exact h j hl
/-- a quiet load of a whole array, of an operation that has a guard -/
theorem quiet_loadG {P : Program} {ops : Array Oper} {C : World → Prop} {K : Act → Prop} {a : Act} {o : Oper} {rest : List Oper} (t : TypeId) (p : Operand) (x v : Value) (hw : Region.wanted o (yielded ops a.tmps) = true) (ho : o.op = .load t p) (hp : a.eval p = x)
    (hl : ∀ w, C w → (Instr.loadAt t x).run P w = .ok v w) (h : wpQuiet P ops C K rest (a.put o.dst v)) : wpQuiet P ops C K (o :: rest) a := by
  refine wpQuiet_step fun K' hK => ?_
  rw [if_pos hw]
  refine ⟨v, fun w hw => ?_, hK _ h⟩
  unfold Oper.quietAt
  have he : (execOp a.eval o).run P w = .ok (.value v) w := by
    simp only [execOp, ho, hp, Sem.run_bind, hl w hw, Result.andThen]
    rfl
  rw [he]
  exact ⟨rfl, rfl⟩
/-- a whole array, loaded from whatever world of a region -/
theorem AB.loadQ {P : Program} {k : IntKind} {t e : TypeId} {b n : Nat} {l : List Nat} {w : World} (h : AB k t b l w) (hu : P.underlying t = some (.array n e)) (hi : (P.info? t).map (·.size) = some l.length) : ∀ w', (∃ m : Q.GW w w.heap.size none, w' = m.w) → (Instr.loadAt t (.pointer (some ⟨b, 0, none⟩))).run P w' = .ok (.agg (arr k l)) w' := by
  rintro w' ⟨m, rfl⟩
  have := (h.below h.lt m.below).load (P := P) hu hi
  simp only [Instr.loadAt, Instr.sureAddr, Sem.run_bind, Sem.run_pure, this, Result.andThen]
/-- a row of slices, whatever they are of -/
def kSl : Kd (Option Addr × Nat × Nat) := Kd.scalar (fun p => Value.slice p.1 p.2.1 p.2.2) (fun _ => rfl)
theorem info_sl : (Try.prog.info? 22).map (fun i => (i.zero, i.size, i.bytes)) = some (some (.slice none 0 0), 1, 24) := by kernel_rfl
/-- what these slices read as -/
def PS (w : World) (ps : List (Option Addr × Nat × Nat)) (L : List (List Nat)) : Prop := ps.length = L.length ∧ ∀ j, j < L.length → (ps.getD j (none, 0, 0)).2.1 = (L.getD j []).length ∧ (Kd.int .u8).C w (ps.getD j (none, 0, 0)).1 (L.getD j []).length (nat (L.getD j [])) ∧ (∀ x ∈ L.getD j [], x < 256) ∧ (L.getD j []).length ≤ (ps.getD j (none, 0, 0)).2.2
theorem PS.below {w w1 : World} {ps : List (Option Addr × Nat × Nat)} {L : List (List Nat)} (h : PS w ps L) (hb : Below w.heap.size w w1) : PS w1 ps L :=
  ⟨h.1, fun j hj => ⟨(h.2 j hj).1, Kd.C_below (h.2 j hj).2.1 hb, (h.2 j hj).2.2.1, (h.2 j hj).2.2.2⟩⟩
theorem PS.nil (w : World) : PS w [] [] := ⟨rfl, fun j hj => absurd hj (by simp)⟩
theorem PS.snoc {w : World} {ps : List (Option Addr × Nat × Nat)} {L : List (List Nat)} {A : Option Addr} {c : Nat} {l : List Nat} (h : PS w ps L) (hC : (Kd.int .u8).C w A l.length (nat l)) (h8 : ∀ x ∈ l, x < 256) (hc : l.length ≤ c) : PS w (ps ++ [(A, l.length, c)]) (L ++ [l]) := by
  refine ⟨by simp [h.1], fun j hj => ?_⟩
  by_cases hl : j < L.length
  · have e1 : (ps ++ [(A, l.length, c)]).getD j (none, 0, 0) = ps.getD j (none, 0, 0) := by rw [List.getD_eq_getElem?_getD, List.getElem?_append_left (by rw [h.1]; exact hl), ← List.getD_eq_getElem?_getD]
    have e2 : (L ++ [l]).getD j [] = L.getD j [] := by rw [List.getD_eq_getElem?_getD, List.getElem?_append_left hl, ← List.getD_eq_getElem?_getD]
    rw [e1, e2]
    exact h.2 j hl
  · have hj' : j = L.length := by simp at hj; omega
    subst hj'
    have e1 : (ps ++ [(A, l.length, c)]).getD L.length (none, 0, 0) = (A, l.length, c) := by rw [List.getD_eq_getElem?_getD, ← h.1, List.getElem?_append_right (Nat.le_refl _)]; simp
    have e2 : (L ++ [l]).getD L.length [] = l := by rw [List.getD_eq_getElem?_getD, List.getElem?_append_right (Nat.le_refl _)]; simp
    rw [e1, e2]
    exact ⟨rfl, hC, h8, hc⟩
/-- a row of them is a row of rows -/
theorem RB_of_S {w : World} {A : Option Addr} {ps : List (Option Addr × Nat × Nat)} {L : List (List Nat)} (h : kSl.C w A ps.length ps) (hp : PS w ps L) : RB w A L := fun j hj => by
  obtain ⟨hl, hr⟩ := hp
  obtain ⟨h1, h2, h3, h4⟩ := hr j hj
  obtain ⟨ad, e, hc⟩ := h.2.2 (by omega)
  have hj' : j < ps.length := by omega
  obtain ⟨cs, hcl, hk, hcell⟩ := hc j (ps.getD j (none, 0, 0)) (by rw [List.getD_eq_getElem?_getD, List.getElem?_eq_getElem hj']; rfl)
  obtain ⟨cs0, _, hk0, hcell0⟩ := hc 0 (ps.getD 0 (none, 0, 0)) (by rw [List.getD_eq_getElem?_getD, List.getElem?_eq_getElem (show 0 < ps.length by omega)]; rfl)
  have e0 := hcell0 0 (.slice (ps.getD 0 (none, 0, 0)).1 (ps.getD 0 (none, 0, 0)).2.1 (ps.getD 0 (none, 0, 0)).2.2) (by rw [show cs0 = [_] from hk0]; rfl)
  have e1 := hcell 0 (.slice (ps.getD j (none, 0, 0)).1 (ps.getD j (none, 0, 0)).2.1 (ps.getD j (none, 0, 0)).2.2) (by rw [show cs = [_] from hk]; rfl)
  obtain ⟨b, off, spot⟩ := ad
  have hs : spot = none := by
    have := World.cell?_spot e0
    simpa [Addr.add] using this
  subst hs
  rw [add_at] at e1
  simp only [show kSl.sz = 1 from rfl, Nat.mul_one, Nat.add_zero] at e1
  rw [h1] at e1
  exact ⟨b, off, _, _, e, World.block_lt_of_cell? w _ e1, e1, h2, h3, h4⟩
/-- the same, one row apart -/
theorem AB.loadQR {P : Program} {k : IntKind} {t e : TypeId} {b n B : Nat} {row : Option Nat} {l : List Nat} {w : World} (h : AB k t b l w) (hb : b < B) (hne : some b ≠ row) (hu : P.underlying t = some (.array n e)) (hi : (P.info? t).map (·.size) = some l.length) : ∀ w', (∃ m : Q.GW w B row, w' = m.w) → (Instr.loadAt t (.pointer (some ⟨b, 0, none⟩))).run P w' = .ok (.agg (arr k l)) w' := by
  rintro w' ⟨m, rfl⟩
  have := (h.keep (w1 := m.w) (m.h.block b hb hne)).load (P := P) hu hi
  simp only [Instr.loadAt, Instr.sureAddr, Sem.run_bind, Sem.run_pure, this, Result.andThen]
/-- a row of one's own, when an object of another type is written -/
theorem R_obj {α : Type} {d : Kd α} {e t : TypeId} {w w1 : World} {base b : Nat} {v : Value} {xs : List α} {cs : Array Value} (h : d.R e w base (fun _ => True) v xs) (hb : w.heap[b]? = some (.cells cs t (0, 0))) (ht : ∀ q, q ∈ e :: d.E → q ≠ t) (hg : w.grownBy w1 (some b)) : d.R e w1 base (fun _ => True) v xs :=
  Kd.R_mono (Kd.R_grown (Kd.R_types h hb ht) hg (fun k hk he => by injection he with he; exact hk.2 he)) (fun _ _ => trivial)
end Go.Proofs.Ytagfplcafeblbaa.N
