/-
  keys: rows apart; calls as plain data; appends of bytes.
-/
import Derived.Test.YtigbmbmngkmdlaaKd
import Derived.Test.YtigbmbmngkmdlaaRd
namespace Go.Proofs.Ytigbmbmngkmdlaa.Ke
open Go.RowKit Go.Proofs.Ytigbmbmngkmdlaa.L Go.Proofs.YtigbmbmngkmdlaaW.PrintWords

/-- the row at A is not the row of v -/
def Apt (A : Option Addr) (v : Value) : Prop := ∀ ad, A = some ad → some ad.block ≠ v.ownBlock
theorem Apt.none_ (v : Value) : Apt none v := fun _ h => by cases h
theorem Apt.fresh {A A' : Option Addr} {v : Value} {w : World} (h : Apt A v) (hF : Fr w A A') (hv : ∀ k, v.ownBlock = some k → k < w.heap.size) : Apt A' v := fun ad ha e => by
  rcases hF with h1 | h1
  · exact h ad (h1 ▸ ha) e
  · have := h1 ad ha
    have := hv ad.block e.symm
    omega
theorem Apt.grow {A : Option Addr} {v v1 : Value} {w : World} {e : TypeId} (h : Apt A v) (hT : Ty w e A) (hat : v1.ownBlock = v.ownBlock ∨ ∃ b, v1.ownBlock = some b ∧ w.heap.size ≤ b) : Apt A v1 := fun ad ha e1 => by
  rcases hat with h1 | ⟨b, h1, h2⟩
  · exact h ad ha (h1 ▸ e1)
  · rw [h1] at e1
    injection e1 with e1
    have := hT.lt ha
    omega
theorem StA.lt {b : Nat} {n : Int} {l : List Int} {A : Option Addr} {w : World} (h : StA b n l A w) : b < w.heap.size := h.st.lt
theorem StA.below {b : Nat} {n : Int} {l : List Int} {A : Option Addr} {w w1 : World} (h : StA b n l A w) (hb : Below w.heap.size w w1) : StA b n l A w1 := by
  obtain ⟨c, h1, h2, h3, h4⟩ := h
  exact ⟨c, (hb.block b (Array.getElem?_eq_some_iff.1 h1).1).trans h1, h2, Kd.C_below h3 hb, h4.move (below_keep hb h4)⟩
theorem StA.ty {b : Nat} {n : Int} {l : List Int} {A : Option Addr} {w : World} (h : StA b n l A w) : Ty w 5 A := by
  obtain ⟨c, h1, h2, h3, h4⟩ := h
  exact h4
theorem StA.row {b : Nat} {n : Int} {l : List Int} {A : Option Addr} {w w1 : World} {row : Option Nat} (h : StA b n l A w) (hg : w.grownBy w1 row) (hb : some b ≠ row) (hA : ∀ ad, A = some ad → some ad.block ≠ row) : StA b n l A w1 := by
  obtain ⟨c, h1, h2, h3, h4⟩ := h
  have hm : ∀ ad, A = some ad → w1.heap[ad.block]? = w.heap[ad.block]? := fun ad ha => hg.block _ (h4.lt ha) (hA ad ha)
  exact ⟨c, (hg.block b (Array.getElem?_eq_some_iff.1 h1).1 hb).trans h1, h2, C_move h3 hm, h4.move hm⟩
theorem StA.ne {b : Nat} {n : Int} {l : List Int} {A : Option Addr} {w : World} {B : Nat} {ok : Nat → Prop} {v : Value} {T : List Int} (h : StA b n l A w) (hR : (Kd.int .u8).R 5 w B ok v T) : some b ≠ v.ownBlock := by
  obtain ⟨c, h1, _⟩ := h
  exact Kd.R_ne hR h1 (by decide)
theorem R_st {b : Nat} {n : Int} {l : List Int} {A : Option Addr} {w w1 : World} {B : Nat} {v : Value} {T : List Int} (hR : (Kd.int .u8).R 5 w B (fun _ => True) v T) (h : StA b n l A w) (hg : w.grownBy w1 (some b)) : (Kd.int .u8).R 5 w1 B (fun _ => True) v T := by
  obtain ⟨c, h1, _⟩ := h
  exact Kd.R_mono (Kd.R_grown (Kd.R_types hR h1 (by intro q hq; simp [show (Kd.int .u8).E = [] from rfl] at hq; subst hq; decide)) hg (fun k hk e => hk.2 (by injection e))) (fun _ _ => trivial)

section
variable {P : Program} {ops : Array Oper} {rest : List Oper} {o : Oper} {a : Act} {Q : Exit → Act → World → Prop}
/-- append(s, ys...), and where the new row lies -/
theorem appn2 {w0 W : World} (k : IntKind) (B : Nat) (s x : Operand) (t e : TypeId) (bytes : Nat) (hgd : o.guard = none)
    (ho : o.op = .call { callee := .builtin .append, args := #[s, x], argTypes := #[t, t] }) (ht : P.underlying t = some (.slice e))
    (hinfo : (P.info? e).map (fun i => (i.zero, i.size, i.bytes)) = some (some (.int k 0), 1, bytes)) (hb0 : 0 < bytes)
    (v : Value) (xs ys : List Int) (A : Option Addr) (m c : Nat) (hs : a.eval s = v) (hx : a.eval x = .slice A m c)
    (HO : (Kd.int k).R e W B (fun _ => True) v xs) (HR : (Kd.int k).C W A m ys) (HB : Below B w0 W) (hB : B ≤ W.heap.size) (hl : (xs.length + m) * bytes ≤ 140737488355328)
    (h : ∀ v1 w1, (Kd.int k).R e w1 B (fun _ => True) v1 (xs ++ ys) → Below B w0 w1 → W.grownBy w1 v.ownBlock → (v1.ownBlock = v.ownBlock ∨ ∃ b, v1.ownBlock = some b ∧ W.heap.size ≤ b) → wpList P ops Q rest (a.put o.dst v1) w1) :
    wpList P ops Q (o :: rest) a W :=
  Kd.R_append_row (Value.int k) 0 B hgd s x t e (.int k 0) bytes ho ht hinfo rfl hb0 v xs ys A m c (fun _ => True) hs hx (fun _ _ => trivial) HO HR HB hB hl h
end

abbrev OpD := Int × Int × List Int
def kOp : Kd OpD := Kd.pair (Kd.int .i64) (Kd.pair (Kd.int .u64) (Kd.slice 5 (Kd.int .u8)))
def zOp : OpD := (0, 0, [])
theorem O_open {w : World} {A : Option Addr} {l : List OpD} (h : kOp.C w A l.length l) :
    l.length ≤ 9223372036854775807 ∧ (l = [] ∨ ∃ b off, A = some ⟨b, off, none⟩ ∧ b < w.heap.size ∧ ∀ j, j < l.length → w.cell? ⟨b, off + j * 3, none⟩ = some (.int .i64 (l.getD j zOp).1) ∧ w.cell? ⟨b, off + j * 3 + 1, none⟩ = some (.int .u64 (l.getD j zOp).2.1) ∧
      ∃ Aj cj, w.cell? ⟨b, off + j * 3 + 2, none⟩ = some (.slice Aj (l.getD j zOp).2.2.length cj) ∧ (l.getD j zOp).2.2.length ≤ cj ∧ (Kd.int .u8).C w Aj (l.getD j zOp).2.2.length (l.getD j zOp).2.2) := by
  refine ⟨h.2.1, ?_⟩
  rcases Nat.eq_zero_or_pos l.length with h0 | h0
  · exact .inl (List.eq_nil_of_length_eq_zero h0)
  · right
    have key : ∀ j, j < l.length → ∃ ad, A = some ad ∧ w.cell? (ad.add (j * 3 + 0)) = some (.int .i64 (l.getD j zOp).1) ∧ w.cell? (ad.add (j * 3 + 1)) = some (.int .u64 (l.getD j zOp).2.1) ∧ ∃ Aj cj, w.cell? (ad.add (j * 3 + 2)) = some (.slice Aj (l.getD j zOp).2.2.length cj) ∧ (l.getD j zOp).2.2.length ≤ cj ∧ (Kd.int .u8).C w Aj (l.getD j zOp).2.2.length (l.getD j zOp).2.2 := by
      intro j hj
      obtain ⟨ad, c, e, _, ⟨c0, c1, rfl, h1, c2, c3, rfl, h2, A1, n1, rfl, hn, hA⟩, hc⟩ := Kd.C_get h zOp j (by omega) (by omega)
      rw [show c0 = [Value.int .i64 (l.getD (j : Int).toNat zOp).1] from h1, show c2 = [Value.int .u64 (l.getD (j : Int).toNat zOp).2.1] from h2] at hc
      simp only [Int.toNat_natCast] at hc hn hA
      exact ⟨ad, e, hc 0 _ rfl, hc 1 _ rfl, A1, n1, hc 2 _ rfl, hn, hA⟩
    obtain ⟨ad, e, hc, _⟩ := key 0 h0
    obtain ⟨b, off, spot⟩ := ad
    have hs : spot = none := by
      have := World.cell?_spot hc
      simpa [Addr.add] using this
    subst hs
    refine ⟨b, off, e, ?_, ?_⟩
    · have := World.block_lt_of_cell? w _ hc
      rwa [add_at] at this
    · intro j hj
      obtain ⟨ad, e', hc, hc1, Aj, cj, hc2, hr⟩ := key j hj
      rw [e] at e'
      injection e' with e'
      subst e'
      rw [add_at] at hc hc1 hc2
      exact ⟨hc, hc1, Aj, cj, hc2, hr⟩
end Go.Proofs.Ytigbmbmngkmdlaa.Ke
