/-
  keys: a stream and a sink in memory; rows that are read and whose blocks' type is known.
-/
import Derived.Test.YtigbmbmngkmdlaaL
import Derived.Test.YtigbmbmngkmdlaaQ
import Derived.Test.YtigbmbmngkmdlaaSc
import Derived.StillTailTactics
import Derived.ArgAppend
import Derived.Deep.Upon
namespace Go.Proofs.Ytigbmbmngkmdlaa.Ke
open Go.RowKit Go.Proofs.Ytigbmbmngkmdlaa.L Go.Proofs.YtigbmbmngkmdlaaW.PrintWords

def okB (l : List Int) : Prop := ∀ x ∈ l, 0 ≤ x ∧ x < 256
theorem info_u8 : (Try.prog.info? 5).map (fun i => (i.zero, i.size, i.bytes)) = some (some (.int .u8 0), 1, 1) := by kernel_rfl

/-- A row that is read, in a block of elements of type e. -/
def Ty (w : World) (e : TypeId) (A : Option Addr) : Prop := ∀ ad, A = some ad → ∃ cs fr, w.heap[ad.block]? = some (.cells cs e fr)
theorem Ty.lt {w : World} {e : TypeId} {A : Option Addr} (h : Ty w e A) {ad : Addr} (ha : A = some ad) : ad.block < w.heap.size := by
  obtain ⟨cs, fr, hb⟩ := h ad ha
  exact (Array.getElem?_eq_some_iff.1 hb).1
theorem Ty.none_ (w : World) (e : TypeId) : Ty w e none := fun _ h => by cases h
theorem C_move {k : IntKind} {w w1 : World} {A : Option Addr} {n : Nat} {l : List Int} (h : (Kd.int k).C w A n l) (hm : ∀ ad, A = some ad → w1.heap[ad.block]? = w.heap[ad.block]?) : (Kd.int k).C w1 A n l := by
  obtain ⟨h1, h2, h3⟩ := h
  refine ⟨h1, h2, fun hp => ?_⟩
  obtain ⟨ad, rfl, hc⟩ := h3 hp
  refine ⟨ad, rfl, fun j p hj => ?_⟩
  obtain ⟨c, hl, hk, hcell⟩ := hc j p hj
  refine ⟨c, hl, hk, fun i u hu => ?_⟩
  have hb : (ad.add (j * (Kd.int k).sz + i)).block = ad.block := by unfold Addr.add; split <;> rfl
  rw [World.cell?_of_block (w := w) (by rw [hb]; exact hm ad rfl)]
  exact hcell i u hu
theorem Ty.move {w w1 : World} {e : TypeId} {A : Option Addr} (h : Ty w e A) (hm : ∀ ad, A = some ad → w1.heap[ad.block]? = w.heap[ad.block]?) : Ty w1 e A := fun ad ha => by
  obtain ⟨cs, fr, hb⟩ := h ad ha
  exact ⟨cs, fr, (hm ad ha).trans hb⟩
theorem Ty.ne {w : World} {e t : TypeId} {A : Option Addr} (h : Ty w e A) {ad : Addr} (ha : A = some ad) {b : Nat} {cs : Array Value} {fr : Nat × Nat} (hb : w.heap[b]? = some (.cells cs t fr)) (hne : e ≠ t) : ad.block ≠ b := fun e1 => by
  obtain ⟨cs', fr', h1⟩ := h ad ha
  rw [e1, hb] at h1
  injection h1 with h1
  injection h1 with _ h2 _
  exact hne h2.symm
theorem grown_keep {w w1 : World} {b : Nat} {e t : TypeId} {A : Option Addr} (hg : w.grownBy w1 (some b)) (h : Ty w e A) {cs : Array Value} {fr : Nat × Nat} (hb : w.heap[b]? = some (.cells cs t fr)) (hne : e ≠ t) : ∀ ad, A = some ad → w1.heap[ad.block]? = w.heap[ad.block]? :=
  fun ad ha => hg.block _ (h.lt ha) (fun h1 => h.ne ha hb hne (by injection h1))
theorem below_keep {w w1 : World} {e : TypeId} {A : Option Addr} (hb : Below w.heap.size w w1) (h : Ty w e A) : ∀ ad, A = some ad → w1.heap[ad.block]? = w.heap[ad.block]? := fun _ ha => hb.block _ (h.lt ha)
theorem Ty_own {w : World} {base : Nat} {e : TypeId} {size n : Nat} {A : Option Addr} {m c : Nat} {xs : List Value} (h : w.ownsRow base e size (.slice A m c) n xs) : Ty w e A := fun ad ha => by
  subst ha
  obtain ⟨cells, hc⟩ := own_typed h ad.block rfl
  exact ⟨cells, (0, 0), hc⟩
theorem Ty_R {k : IntKind} {w : World} {base : Nat} {e : TypeId} {ok : Nat → Prop} {A : Option Addr} {m c : Nat} {xs : List Int} (h : (Kd.int k).R e w base ok (.slice A m c) xs) : Ty w e A := by
  obtain ⟨inner, ho⟩ := Kd.R_own h
  exact Ty_own ho

/-- the same row, or one made since -/
def Fr (w : World) (A A' : Option Addr) : Prop := A' = A ∨ ∀ ad, A' = some ad → w.heap.size ≤ ad.block
section
variable {P : Program} {ops : Array Oper} {rest : List Oper} {o : Oper} {a : Act} {Q : Exit → Act → World → Prop}
/-- append(s[:n:n], ys...): what was there stays; the new row is read. -/
theorem appr {W : World} (k : IntKind) (s x : Operand) (t e : TypeId) (bytes : Nat) (hgd : o.guard = none)
    (ho : o.op = .call { callee := .builtin .append, args := #[s, x], argTypes := #[t, t] }) (ht : P.underlying t = some (.slice e))
    (hinfo : (P.info? e).map (fun i => (i.zero, i.size, i.bytes)) = some (some (.int k 0), 1, bytes))
    (xs ys : List Int) (A A2 : Option Addr) (n m c : Nat) (hs : a.eval s = .slice A n n) (hx : a.eval x = .slice A2 m c)
    (HC : (Kd.int k).C W A n xs) (HT : Ty W e A) (HR : (Kd.int k).C W A2 m ys) (hnone : A = none → n = 0) (hl : (n + m) * bytes ≤ 140737488355328) (hb0 : 0 < bytes)
    (h : ∀ A1 c1 w1, n + m ≤ c1 → (Kd.int k).C w1 A1 (n + m) (xs ++ ys) → Ty w1 e A1 → Fr W A A1 → W.grownBy w1 none → wpList P ops Q rest (a.put o.dst (.slice A1 (n + m) c1)) w1) :
    wpList P ops Q (o :: rest) a W := by
  obtain ⟨i0, hi, hzz⟩ := Option.map_eq_some_iff.1 hinfo
  simp only [Prod.mk.injEq] at hzz
  obtain ⟨hz0, hz1, hz2⟩ := hzz
  have hxl : xs.length = n := HC.1
  have hyl : ys.length = m := HR.1
  have hlen : n + m ≤ 140737488355328 := Nat.le_trans (Nat.le_mul_of_pos_right _ hb0) hl
  rcases Nat.eq_zero_or_pos m with hm | hm
  · have hy0 : ys = [] := List.eq_nil_of_length_eq_zero (by omega)
    subst hm hy0
    have src : Src P i0.size t (.slice A2 0 c) 0 [] W := ⟨.inl ⟨e, ht⟩, fun w' => rfl, by cases A2 <;> simp [Builtin.firstCells, loadCells] <;> rfl, by cases A2 <;> simp [Builtin.firstCells, loadCells] <;> rfl, by simp, fun u hu => by cases hu⟩
    have hrun := run_append_nothing (P := P) W t t o.type e i0 ht hi A n n (Nat.le_refl _) (.slice A2 0 c) src
    refine wpList_plain hgd fun K hK' => ?_
    unfold Oper.wp
    simp [execOp, ho, resolve, invoke, builtin, hs, hx, hrun, Result.andThen]
    exact hK' _ _ (h A n W (Nat.le_refl _) (by simpa using HC) HT (.inl rfl) (World.grownBy.refl _ _))
  · obtain ⟨ad, hA2, hcell⟩ := HR.2.2 hm
    subst hA2
    refine wpList_append_grows W hgd s x t ho e i0 (.int k 0) 1 bytes ht hi hz0 hz1 hz2 rfl (by decide) A n n (xs.map (Value.int k)) hs (fun h0 => ⟨hnone h0, hnone h0⟩) (by simp [hxl]) ?_ ad m c (ys.map (Value.int k)) hx (by simp [hyl]) ?_ ?_ (by omega) (by simp only [maxLen]; omega) hl ?_
    · intro b hb j u hu
      simp only [List.getElem?_map, Option.map_eq_some_iff] at hu
      obtain ⟨y, hy, rfl⟩ := hu
      have hj : j < n := by have := (List.getElem?_eq_some_iff.1 hy).1; omega
      obtain ⟨ad', hA, hc'⟩ := HC.2.2 (by omega)
      rw [hb] at hA
      injection hA with hA
      subst hA
      obtain ⟨cc, hcl, hck, hcc⟩ := hc' j y hy
      have := hcc 0 (Value.int k y) (by rw [show cc = [Value.int k y] from hck]; rfl)
      simpa [show (Kd.int k).sz = 1 from rfl] using this
    · intro j u hu
      simp only [List.getElem?_map, Option.map_eq_some_iff] at hu
      obtain ⟨y, hy, rfl⟩ := hu
      obtain ⟨cc, hcl, hck, hcc⟩ := hcell j y hy
      have := hcc 0 (Value.int k y) (by rw [show cc = [Value.int k y] from hck]; rfl)
      simpa [show (Kd.int k).sz = 1 from rfl] using this
    · intro u hu
      obtain ⟨y, _, rfl⟩ := List.mem_map.1 hu
      rfl
    · intro v' w' hown hg
      have hR : (Kd.int k).R e w' W.heap.size (fun _ => True) v' (xs ++ ys) := Kd.R_of_own (enc := Value.int k) (by
        have hl' : (xs ++ ys).length = n + m := by simp [hxl, hyl]
        rw [hl', encs, List.map_append]
        exact hown) (fun _ _ => trivial)
      obtain ⟨A1, c1, hv, hc1, hC1⟩ := Kd.R_reads hR
      have hl' : (xs ++ ys).length = n + m := by simp [hxl, hyl]
      rw [hl'] at hv hc1 hC1
      subst hv
      exact h A1 c1 w' hc1 hC1 (Ty_R hR) (.inr fun ad ha => Kd.R_base hR ad.block (by subst ha; rfl)) hg
end

/-- s[:n:n] -/
theorem cut_cap {P : Program} (t e : TypeId) {i : TypeInfo} (ht : P.underlying t = some (.slice e)) (hi : P.info? e = some i) (A : Option Addr) (n c : Nat) (hc : n ≤ c) :
    ∀ W : World, (Instr.slice t (.slice A n c) none (some (.int .i64 n)) (some (.int .i64 n))).run P W = .ok (.slice A n n) W := by
  intro W
  have e1 : ∀ a : Addr, Addr.add a 0 = a := fun a => by simp [Addr.add]
  have e2 : (Option.map (fun x : Addr => x.add 0) A) = A := by cases A <;> simp [e1]
  simp [Instr.slice, run_underlying ht, Instr.sliceBounds, Instr.sliceBound, asIntOf, hc, sizeOf, typeInfo, hi, Result.andThen, e2]

/-- a stream in memory: its base, what waits -/
def St (b : Nat) (n : Int) (l : List Int) (w : World) : Prop := ∃ A c, w.heap[b]? = some (.cells #[.bool true, .int .u64 n, .slice A l.length c] 58 (0, 0)) ∧ l.length ≤ c ∧ (Kd.int .u8).C w A l.length l ∧ Ty w 5 A
/-- the same, its row told -/
def StA (b : Nat) (n : Int) (l : List Int) (A : Option Addr) (w : World) : Prop := ∃ c, w.heap[b]? = some (.cells #[.bool true, .int .u64 n, .slice A l.length c] 58 (0, 0)) ∧ l.length ≤ c ∧ (Kd.int .u8).C w A l.length l ∧ Ty w 5 A
theorem StA.st {b : Nat} {n : Int} {l : List Int} {A : Option Addr} {w : World} (h : StA b n l A w) : St b n l w := ⟨A, h⟩
/-- a sink in memory: how many it took -/
def Sk (b : Nat) (n : Int) (w : World) : Prop := w.heap[b]? = some (.cells #[.bool true, .int .u64 n] 60 (0, 0))
theorem Sk.lt {b : Nat} {n : Int} {w : World} (h : Sk b n w) : b < w.heap.size := (Array.getElem?_eq_some_iff.1 h).1
theorem Sk.below {b : Nat} {n : Int} {w w1 : World} (h : Sk b n w) (hb : Below w.heap.size w w1) : Sk b n w1 := (hb.block b h.lt).trans h
theorem St.lt {b : Nat} {n : Int} {l : List Int} {w : World} (h : St b n l w) : b < w.heap.size := by
  obtain ⟨A, c, hb, _⟩ := h
  exact (Array.getElem?_eq_some_iff.1 hb).1
theorem St.below {b : Nat} {n : Int} {l : List Int} {w w1 : World} (h : St b n l w) (hb : Below w.heap.size w w1) : St b n l w1 := by
  obtain ⟨A, c, h1, h2, h3, h4⟩ := h
  exact ⟨A, c, (hb.block b (Array.getElem?_eq_some_iff.1 h1).1).trans h1, h2, Kd.C_below h3 hb, h4.move (below_keep hb h4)⟩
/-- a sink's call leaves a stream alone -/
theorem St.sink {b k : Nat} {n m : Int} {l : List Int} {w w1 : World} (h : St b n l w) (hk : Sk k m w) (hg : w.grownBy w1 (some k)) : St b n l w1 := by
  obtain ⟨A, c, h1, h2, h3, h4⟩ := h
  have hne : b ≠ k := fun e => by
    subst e
    rw [show w.heap[b]? = _ from hk] at h1
    injection h1 with h1
    injection h1 with h1 h5 h6
    exact absurd h5 (by decide)
  have hm := grown_keep hg h4 hk (by decide)
  exact ⟨A, c, (hg.block b (Array.getElem?_eq_some_iff.1 h1).1 (fun e => hne (by injection e))).trans h1, h2, C_move h3 hm, h4.move hm⟩
theorem Sk.stream {b k : Nat} {n m : Int} {l : List Int} {w w1 : World} (hk : Sk k m w) (h : St b n l w) (hg : w.grownBy w1 (some b)) : Sk k m w1 := by
  obtain ⟨A, c, h1, h2, h3, h4⟩ := h
  have hne : k ≠ b := fun e => by
    subst e
    rw [show w.heap[k]? = _ from hk] at h1
    injection h1 with h1
    injection h1 with h1 h5 h6
    exact absurd h5 (by decide)
  exact (hg.block k hk.lt (fun e => hne (by injection e))).trans hk
end Go.Proofs.Ytigbmbmngkmdlaa.Ke
