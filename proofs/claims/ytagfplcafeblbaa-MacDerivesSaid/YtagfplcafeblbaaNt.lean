/-
  Rows that are read and whose blocks' type is known; append behind s[:n:n]; stores in the middle of a block.
-/
import Derived.Test.YtagfplcafeblbaaNc
import Derived.Test.YtagfplcafeblbaaNq
import Derived.Deep.MidRow
import Derived.StillTailTactics
import Derived.ArgAppend
import Derived.Deep.Upon
import Derived.BigQuiet
namespace Go.Proofs.Ytagfplcafeblbaa.N
open Go.RowKit Go.Proofs.Ytagfplcafeblbaa.L Go.Proofs.YtagfplcafeblbaaW.PrintWords

theorem info_u8 : (Try.prog.info? 5).map (fun i => (i.zero, i.size, i.bytes)) = some (some (.int .u8 0), 1, 1) := by kernel_rfl
/-- A row that is read, in a block of elements of type e. -/
def Ty (w : World) (e : TypeId) (A : Option Addr) : Prop := ∀ ad, A = some ad → ∃ cs fr, w.heap[ad.block]? = some (.cells cs e fr)
theorem Ty.lt {w : World} {e : TypeId} {A : Option Addr} (h : Ty w e A) {ad : Addr} (ha : A = some ad) : ad.block < w.heap.size := by
  obtain ⟨cs, fr, hb⟩ := h ad ha
  exact (Array.getElem?_eq_some_iff.1 hb).1
theorem Ty.none_ (w : World) (e : TypeId) : Ty w e none := fun _ h => by cases h
theorem C_move {k : IntKind} {w w1 : World} {A : Option Addr} {n : Nat} {l : List Int} (h : (Kd.int k).C w A n l) (hm : ∀ ad, A = some ad → w1.heap[ad.block]? = w.heap[ad.block]?) : (Kd.int k).C w1 A n l := by
  obtain ⟨h1, h2, h3⟩ := h
  refine ⟨h1, h2, fun hp => ?_⟩
  obtain ⟨ad, rfl, hc⟩ := h3 hp
  refine ⟨ad, rfl, fun j p hj => ?_⟩
  obtain ⟨c, hl, hk, hcell⟩ := hc j p hj
  refine ⟨c, hl, hk, fun i u hu => ?_⟩
  have hb : (ad.add (j * (Kd.int k).sz + i)).block = ad.block := by unfold Addr.add; split <;> rfl
  rw [World.cell?_of_block (w := w) (by rw [hb]; exact hm ad rfl)]
  exact hcell i u hu
theorem Ty.move {w w1 : World} {e : TypeId} {A : Option Addr} (h : Ty w e A) (hm : ∀ ad, A = some ad → w1.heap[ad.block]? = w.heap[ad.block]?) : Ty w1 e A := fun ad ha => by
  obtain ⟨cs, fr, hb⟩ := h ad ha
  exact ⟨cs, fr, (hm ad ha).trans hb⟩
theorem Ty.ne {w : World} {e t : TypeId} {A : Option Addr} (h : Ty w e A) {ad : Addr} (ha : A = some ad) {b : Nat} {cs : Array Value} {fr : Nat × Nat} (hb : w.heap[b]? = some (.cells cs t fr)) (hne : e ≠ t) : ad.block ≠ b := fun e1 => by
  obtain ⟨cs', fr', h1⟩ := h ad ha
  rw [e1, hb] at h1
  injection h1 with h1
  injection h1 with _ h2 _
  exact hne h2.symm
theorem grown_keep {w w1 : World} {b : Nat} {e t : TypeId} {A : Option Addr} (hg : w.grownBy w1 (some b)) (h : Ty w e A) {cs : Array Value} {fr : Nat × Nat} (hb : w.heap[b]? = some (.cells cs t fr)) (hne : e ≠ t) : ∀ ad, A = some ad → w1.heap[ad.block]? = w.heap[ad.block]? :=
  fun ad ha => hg.block _ (h.lt ha) (fun h1 => h.ne ha hb hne (by injection h1))
theorem below_keep {w w1 : World} {e : TypeId} {A : Option Addr} (hb : Below w.heap.size w w1) (h : Ty w e A) : ∀ ad, A = some ad → w1.heap[ad.block]? = w.heap[ad.block]? := fun _ ha => hb.block _ (h.lt ha)
theorem Ty_own {w : World} {base : Nat} {e : TypeId} {size n : Nat} {A : Option Addr} {m c : Nat} {xs : List Value} (h : w.ownsRow base e size (.slice A m c) n xs) : Ty w e A := fun ad ha => by
  subst ha
  obtain ⟨cells, hc⟩ := own_typed h ad.block rfl
  exact ⟨cells, (0, 0), hc⟩
theorem Ty_R {k : IntKind} {w : World} {base : Nat} {e : TypeId} {ok : Nat → Prop} {A : Option Addr} {m c : Nat} {xs : List Int} (h : (Kd.int k).R e w base ok (.slice A m c) xs) : Ty w e A := by
  obtain ⟨inner, ho⟩ := Kd.R_own h
  exact Ty_own ho

/-- the same row, or one made since -/
def Fr (w : World) (A A' : Option Addr) : Prop := A' = A ∨ ∀ ad, A' = some ad → w.heap.size ≤ ad.block
section
variable {P : Program} {ops : Array Oper} {rest : List Oper} {o : Oper} {a : Act} {Q : Exit → Act → World → Prop}
/-- append(s[:n:n], ys...): what was there stays; the new row is read. -/
theorem appr {W : World} (k : IntKind) (s x : Operand) (t e : TypeId) (bytes : Nat) (hgd : o.guard = none)
    (ho : o.op = .call { callee := .builtin .append, args := #[s, x], argTypes := #[t, t] }) (ht : P.underlying t = some (.slice e))
    (hinfo : (P.info? e).map (fun i => (i.zero, i.size, i.bytes)) = some (some (.int k 0), 1, bytes))
    (xs ys : List Int) (A A2 : Option Addr) (n m c : Nat) (hs : a.eval s = .slice A n n) (hx : a.eval x = .slice A2 m c)
    (HC : (Kd.int k).C W A n xs) (HT : Ty W e A) (HR : (Kd.int k).C W A2 m ys) (hnone : A = none → n = 0) (hl : (n + m) * bytes ≤ 140737488355328) (hb0 : 0 < bytes)
    (h : ∀ A1 c1 w1, n + m ≤ c1 → (Kd.int k).C w1 A1 (n + m) (xs ++ ys) → Ty w1 e A1 → Fr W A A1 → W.grownBy w1 none → wpList P ops Q rest (a.put o.dst (.slice A1 (n + m) c1)) w1) :
    wpList P ops Q (o :: rest) a W := by
  obtain ⟨i0, hi, hzz⟩ := Option.map_eq_some_iff.1 hinfo
  simp only [Prod.mk.injEq] at hzz
  obtain ⟨hz0, hz1, hz2⟩ := hzz
  have hxl : xs.length = n := HC.1
  have hyl : ys.length = m := HR.1
  have hlen : n + m ≤ 140737488355328 := Nat.le_trans (Nat.le_mul_of_pos_right _ hb0) hl
  rcases Nat.eq_zero_or_pos m with hm | hm
  · have hy0 : ys = [] := List.eq_nil_of_length_eq_zero (by omega)
    subst hm hy0
    have src : Src P i0.size t (.slice A2 0 c) 0 [] W := ⟨.inl ⟨e, ht⟩, fun w' => rfl, by cases A2 <;> simp [Builtin.firstCells, loadCells] <;> rfl, by cases A2 <;> simp [Builtin.firstCells, loadCells] <;> rfl, by simp, fun u hu => by cases hu⟩
    have hrun := run_append_nothing (P := P) W t t o.type e i0 ht hi A n n (Nat.le_refl _) (.slice A2 0 c) src
    refine wpList_plain hgd fun K hK' => ?_
    unfold Oper.wp
    simp [execOp, ho, resolve, invoke, builtin, hs, hx, hrun, Result.andThen]
    exact hK' _ _ (h A n W (Nat.le_refl _) (by simpa using HC) HT (.inl rfl) (World.grownBy.refl _ _))
  · obtain ⟨ad, hA2, hcell⟩ := HR.2.2 hm
    subst hA2
    refine wpList_append_grows W hgd s x t ho e i0 (.int k 0) 1 bytes ht hi hz0 hz1 hz2 rfl (by decide) A n n (xs.map (Value.int k)) hs (fun h0 => ⟨hnone h0, hnone h0⟩) (by simp [hxl]) ?_ ad m c (ys.map (Value.int k)) hx (by simp [hyl]) ?_ ?_ (by omega) (by simp only [maxLen]; omega) hl ?_
    · intro b hb j u hu
      simp only [List.getElem?_map, Option.map_eq_some_iff] at hu
      obtain ⟨y, hy, rfl⟩ := hu
      have hj : j < n := by have := (List.getElem?_eq_some_iff.1 hy).1; omega
      obtain ⟨ad', hA, hc'⟩ := HC.2.2 (by omega)
      rw [hb] at hA
      injection hA with hA
      subst hA
      obtain ⟨cc, hcl, hck, hcc⟩ := hc' j y hy
      have := hcc 0 (Value.int k y) (by rw [show cc = [Value.int k y] from hck]; rfl)
      simpa [show (Kd.int k).sz = 1 from rfl] using this
    · intro j u hu
      simp only [List.getElem?_map, Option.map_eq_some_iff] at hu
      obtain ⟨y, hy, rfl⟩ := hu
      obtain ⟨cc, hcl, hck, hcc⟩ := hcell j y hy
      have := hcc 0 (Value.int k y) (by rw [show cc = [Value.int k y] from hck]; rfl)
      simpa [show (Kd.int k).sz = 1 from rfl] using this
    · intro u hu
      obtain ⟨y, _, rfl⟩ := List.mem_map.1 hu
      rfl
    · intro v' w' hown hg
      have hR : (Kd.int k).R e w' W.heap.size (fun _ => True) v' (xs ++ ys) := Kd.R_of_own (enc := Value.int k) (by
        have hl' : (xs ++ ys).length = n + m := by simp [hxl, hyl]
        rw [hl', encs, List.map_append]
        exact hown) (fun _ _ => trivial)
      obtain ⟨A1, c1, hv, hc1, hC1⟩ := Kd.R_reads hR
      have hl' : (xs ++ ys).length = n + m := by simp [hxl, hyl]
      rw [hl'] at hv hc1 hC1
      subst hv
      exact h A1 c1 w' hc1 hC1 (Ty_R hR) (.inr fun ad ha => Kd.R_base hR ad.block (by subst ha; rfl)) hg
end

/-- s[:n:n] -/
theorem cut_cap {P : Program} (t e : TypeId) {i : TypeInfo} (ht : P.underlying t = some (.slice e)) (hi : P.info? e = some i) (A : Option Addr) (n c : Nat) (hc : n ≤ c) :
    ∀ W : World, (Instr.slice t (.slice A n c) none (some (.int .i64 n)) (some (.int .i64 n))).run P W = .ok (.slice A n n) W := by
  intro W
  have e1 : ∀ a : Addr, Addr.add a 0 = a := fun a => by simp [Addr.add]
  have e2 : (Option.map (fun x : Addr => x.add 0) A) = A := by cases A <;> simp [e1]
  simp [Instr.slice, run_underlying ht, Instr.sliceBounds, Instr.sliceBound, asIntOf, hc, sizeOf, typeInfo, hi, Result.andThen, e2]


theorem Ty.below {w w1 : World} {e : TypeId} {A : Option Addr} (h : Ty w e A) (hb : Below w.heap.size w w1) : Ty w1 e A := h.move (below_keep hb h)
theorem Ty.sub {w : World} {e : TypeId} {A A' : Option Addr} (h : Ty w e A) (hs : Sub A A') : Ty w e A' := fun ad ha => by
  obtain ⟨ad0, h0, hb⟩ := hs ad ha
  rw [← hb]
  exact h ad0 h0
theorem C_ty {k : IntKind} {w w1 : World} {e : TypeId} {A : Option Addr} {n : Nat} {l : List Int} (h : (Kd.int k).C w A n l) (hT : Ty w e A) {b : Nat} {t : TypeId} {cs : Array Value} {fr : Nat × Nat} (hb : w.heap[b]? = some (.cells cs t fr)) (hne : e ≠ t) (hg : w.grownBy w1 (some b)) : (Kd.int k).C w1 A n l := C_move h (grown_keep hg hT hb hne)
/-- a row of bytes is none of the cells of an object that has no byte -/
theorem C_apart {w w1 : World} {A : Option Addr} {n : Nat} {l : List Nat} {b : Nat} {cs : Array Value} {t : TypeId} {fr : Nat × Nat} (h : (Kd.int .u8).C w A n (nat l)) (hb : w.heap[b]? = some (.cells cs t fr)) (hno : ∀ (i : Nat) (y : Int), cs[i]? ≠ some (.int .u8 y)) (hg : w.grownBy w1 (some b)) : (Kd.int .u8).C w1 A n (nat l) := by
  have hn := C_len h
  subst hn
  by_cases h0 : 0 < l.length
  · obtain ⟨g, off, rfl, hlt, hc⟩ := B_at h h0
    refine C_move h fun ad ha => ?_
    injection ha with ha
    subst ha
    refine hg.block g hlt fun e => ?_
    injection e with e
    subst e
    have := hc 0 h0
    rw [Nat.add_zero] at this
    have h2 : w.cell? ⟨g, off, none⟩ = cs[off]? := by simp [World.cell?, hb]
    rw [h2] at this
    exact hno _ _ this
  · exact ⟨h.1, h.2.1, fun hp => absurd hp h0⟩
/-- a quiet load that is known by an equation -/
theorem quiet_load {P : Program} {ops : Array Oper} {C : World → Prop} {K : Act → Prop} {a : Act} {o : Oper} {rest : List Oper} (t : TypeId) (p : Operand) (x v : Value) (hgd : o.guard = none) (ho : o.op = .load t p) (hp : a.eval p = x)
    (hl : ∀ w, C w → (Instr.loadAt t x).run P w = .ok v w) (h : wpQuiet P ops C K rest (a.put o.dst v)) : wpQuiet P ops C K (o :: rest) a := by
  refine wpQuiet_step fun K' hK => ?_
  rw [if_pos (by simp [Region.wanted, hgd])]
  refine ⟨v, fun w hw => ?_, hK _ h⟩
  unfold Oper.quietAt
  have he : (execOp a.eval o).run P w = .ok (.value v) w := by
    simp only [execOp, ho, hp, Sem.run_bind, hl w hw, Result.andThen]
    rfl
  rw [he]
  exact ⟨rfl, rfl⟩
/-- two arrays made one behind the other -/
theorem two_ab {W w : World} {k k' : IntKind} {t t' : TypeId} (l l' : List Nat) (h : W = (w.alloc (.cells (arr k l) t)).alloc (.cells (arr k' l') t')) :
    AB k t w.heap.size l W ∧ AB k' t' (w.heap.size + 1) l' W ∧ Below w.heap.size w W ∧ W.heap.size = w.heap.size + 2 := by
  have hs : (w.alloc (.cells (arr k l) t)).heap.size = w.heap.size + 1 := by simp
  have h2 := AB.mk (w.alloc (.cells (arr k l) t)) k' t' l'
  rw [hs] at h2
  have hb : Below (w.alloc (.cells (arr k l) t)).heap.size (w.alloc (.cells (arr k l) t)) W := h ▸ (Below.refl _ _).alloc (Nat.le_refl _) _
  refine ⟨(AB.mk w k t l).below (by omega) hb, h ▸ h2, ((Below.refl _ _).alloc (Nat.le_refl _) _).trans (hb.mono (by omega)), by rw [h]; simp⟩
theorem arr_get? (k : IntKind) (l : List Nat) {i : Nat} (h : i < l.length) : (arr k l)[i]? = some (.int k (l.getD i 0 : Nat)) := by
  unfold arr
  rw [List.getElem?_toArray, List.getElem?_map, List.getD_eq_getElem?_getD, List.getElem?_eq_getElem h]
  rfl
/-- a[i] of an array by value -/
theorem index_arr {P : Program} {t e : TypeId} {n : Nat} {d : TypeDesc} (hu : P.underlying t = some (.array n e)) (he : P.underlying e = some d) (hd : d.isRow = false) (hs : (P.info? e).map (·.size) = some 1) (k : IntKind) (l : List Nat) (hl : l.length = n) (i : Nat) (hi : i < n) (I : Int) (hI : I = (i : Int)) (W : World) :
    (Instr.index t (.agg (arr k l)) (.int .i64 I)).run P W = .ok (.int k (l.getD i 0 : Nat)) W := by
  subst hI
  have hagg : (isAgg e).run P W = .ok false W := by
    unfold isAgg
    rw [Sem.run_bind, run_underlying he W]
    cases d <;> first | rfl | (simp [TypeDesc.isRow] at hd)
  cases hq : P.info? e with
  | none => simp [hq] at hs
  | some j =>
    have hj : j.size = 1 := by simpa [hq] using hs
    have hc : (0 : Int) ≤ (i : Int) ∧ (i : Int) < (n : Int) := ⟨by omega, by omega⟩
    have hg := arr_get? k l (i := i) (by omega)
    simp [Instr.index, run_underlying hu, asIntOf, hc, sizeOf, typeInfo, hq, hj, part, Sem.run_bind, hagg, hg, go_sem]
    intro h
    omega
/-- a whole array as the walk's simp asks for it -/
theorem AB.cells {P : Program} {k : IntKind} {t : TypeId} {b n : Nat} {l : List Nat} {w : World} (h : AB k t b l w) (hn : l.length = n) : (loadCellsFrom ⟨b, 0, none⟩ 0 n #[]).run P w = .ok (arr k l) w := by
  subst hn
  have := run_loadCells_list (P := P) w ⟨b, 0, none⟩ (arr k l).toList (fun j v hv => by
    rw [add_at, Nat.zero_add, blk_cell h]
    simpa using hv)
  have hs : (arr k l).toList.length = l.length := by simp [arr]
  rw [hs] at this
  simpa [loadCells] using this
theorem set_splice (cs : List Value) (o : Nat) (v : Value) (vs : List Value) (h : o + (vs.length + 1) ≤ cs.length) : splice (cs.set o v) (o + 1) vs = splice cs o (v :: vs) := by
  unfold splice
  have h1 : (cs.set o v).take (o + 1) = cs.take o ++ [v] := by
    rw [List.take_set, List.take_succ_eq_append_getElem (by omega), List.set_append_right _ _ (by simp; omega)]
    have : (cs.take o).length = o := by simp; omega
    rw [this, Nat.sub_self]
    rfl
  have h2 : (cs.set o v).drop (o + 1 + vs.length) = cs.drop (o + (vs.length + 1)) := by
    rw [List.drop_set_of_lt (by omega), show o + 1 + vs.length = o + (vs.length + 1) from by omega]
  rw [h1, h2]
  simp
/-- cells stored in the middle of a block that is known whole -/
theorem setCells_blk (b : Nat) (t : TypeId) : ∀ (vs : List Value) (o : Nat) (cs : List Value) (w : World), w.heap[b]? = some (.cells cs.toArray t (0, 0)) → o + vs.length ≤ cs.length → (w.setCells b o vs).heap[b]? = some (.cells (splice cs o vs).toArray t (0, 0))
  | [], o, cs, w, h, _ => by simpa [World.setCells, splice] using h
  | v :: vs, o, cs, w, h, hl => by
    have h1 := blk_set h o v
    have ih := setCells_blk b t vs (o + 1) (cs.set o v) (w.setCell ⟨b, o, none⟩ v) (by simpa using h1) (by simp at hl ⊢; omega)
    rw [World.setCells, ih, set_splice cs o v vs (by simpa using hl)]
theorem setCells_grown (b : Nat) : ∀ (vs : List Value) (o : Nat) (w : World), w.grownBy (w.setCells b o vs) (some b)
  | [], _, _ => World.grownBy.refl _ _
  | v :: vs, o, w => (grown_set w b o v).trans (setCells_grown b vs (o + 1) (w.setCell ⟨b, o, none⟩ v))
theorem there_blk {w : World} {b o n : Nat} {cs : List Value} {t : TypeId} (h : w.heap[b]? = some (.cells cs.toArray t (0, 0))) (hl : o + n ≤ cs.length) : w.there b o n := fun j hj => by
  refine ⟨?_, blk_frozen h (o + j)⟩
  rw [blk_cell h, List.getElem?_toArray, List.getElem?_eq_getElem (by omega)]
  rfl
theorem range_blk {w : World} {b o : Nat} {cs vs : List Value} {t : TypeId} (h : w.heap[b]? = some (.cells cs.toArray t (0, 0))) (hv : ∀ j v, vs[j]? = some v → cs[o + j]? = some v) : w.rangeAt b o vs := fun j v hj => by
  rw [blk_cell h, List.getElem?_toArray]
  exact hv j v hj
/-- rows of bytes, in memory -/
def RB (w : World) (A : Option Addr) (L : List (List Nat)) : Prop := ∀ j, j < L.length → ∃ b off Aj cj, A = some ⟨b, off, none⟩ ∧ b < w.heap.size ∧ w.cell? ⟨b, off + j, none⟩ = some (.slice Aj (L.getD j []).length cj) ∧ (Kd.int .u8).C w Aj (L.getD j []).length (nat (L.getD j [])) ∧ (∀ x ∈ L.getD j [], x < 256) ∧ (L.getD j []).length ≤ cj
theorem RB.below {w w1 : World} {A : Option Addr} {L : List (List Nat)} (h : RB w A L) (hb : Below w.heap.size w w1) : RB w1 A L := fun j hj => by
  obtain ⟨b, off, Aj, cj, e, hlt, hc, hC, h8, hcap⟩ := h j hj
  exact ⟨b, off, Aj, cj, e, Nat.lt_of_lt_of_le hlt hb.size, (hb.cell (p := ⟨b, off + j, none⟩) hlt).trans hc, Kd.C_below hC hb, h8, hcap⟩
theorem RB.nil (w : World) (A : Option Addr) : RB w A [] := fun j hj => absurd hj (by simp)
theorem flatten_take {L : List (List Nat)} {i : Nat} (h : i < L.length) : (L.take (i + 1)).flatten = (L.take i).flatten ++ L.getD i [] := by
  rw [List.take_succ_eq_append_getElem h, List.flatten_append, List.getD_eq_getElem?_getD, List.getElem?_eq_getElem h]
  simp
theorem flatten_take_le (L : List (List Nat)) (i : Nat) : (L.take i).flatten.length ≤ L.flatten.length := by
  have h := congrArg List.flatten (List.take_append_drop i L)
  rw [List.flatten_append] at h
  rw [← h, List.length_append]
  omega
theorem getD_le {L : List (List Nat)} {i m : Nat} (h : ∀ x ∈ L, x.length ≤ m) : (L.getD i []).length ≤ m := by
  rw [List.getD_eq_getElem?_getD]
  by_cases hi : i < L.length
  · rw [List.getElem?_eq_getElem hi]; exact h _ (List.getElem_mem hi)
  · rw [List.getElem?_eq_none (by omega)]; exact Nat.zero_le _
end Go.Proofs.Ytagfplcafeblbaa.N
