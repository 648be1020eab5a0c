/-
  vint: what the law VintFinds asks, in plain Lean.
-/
import Derived.Test.YtigbmbmngkmdlaaFc
import Derived.Test.YtigbmbmngkmdlaaFb
import Derived.Test.YtigbmbmngkmdlaaBk
import Derived.Test.YtigbmbmngkmdlaaQt
namespace Go.Proofs.Ytigbmbmngkmdlaa.V
open Go.RowKit Go.Proofs.Ytigbmbmngkmdlaa.L Go.Proofs.YtigbmbmngkmdlaaW.PrintWords

theorem findL_app (t : Int) (d : List Int) : ∀ l : List Fld, findL t (l ++ [(t, d)]) = some ((findL t l).getD d)
  | [] => by simp [findL]
  | f :: r => by
    rw [List.cons_append]
    unfold findL
    by_cases h : f.1 = t
    · rw [if_pos h, if_pos h]
      rfl
    · rw [if_neg h, if_neg h]
      exact findL_app t d r
theorem idx_step {t : Int} {l : List Fld} {m : Nat} (h : m < l.length) : idxL t (l.drop m) m = if (l.getD m zF).1 = t then (m : Int) else idxL t (l.drop (m + 1)) (m + 1) := by
  rw [drop_cons_getD l zF m h]
  rfl
theorem nums_app {a b : List Int} (ha : okB a) (hb : okB b) (h1 : (numsR a).2 = 0) (h2 : (numsR b).2 = 0) : numsR (a ++ b) = ((numsR a).1 ++ (numsR b).1, 0) := by
  obtain ⟨f1, c1⟩ := numsR_back ha h1
  obtain ⟨f2, c2⟩ := numsR_back hb h2
  have := numsR_cat (l := (numsR a).1 ++ (numsR b).1) (fun v hv => (List.mem_append.1 hv).elim (f1 v) (f2 v))
  rwa [cat_app, c1, c2] at this

/-- an empty literal's row -/
theorem R_blank {α : Type} (dk : Kd α) (e : TypeId) (W : World) (B : Nat) (hB : B ≤ W.heap.size) : dk.R e (W.alloc (.cells #[] e)) B (fun _ => True) (.slice (some ⟨W.heap.size, 0, none⟩) 0 0) [] :=
  ⟨fun _ _ => trivial, [], ⟨by simp, .inr ⟨W.heap.size, 0, #[], rfl, hB, heap_alloc_new W _, Nat.le_refl _, by decide, by simp, by simp⟩⟩, Reps.none _ _⟩
/-- a literal of one, as it reads -/
theorem C_one (w0 W : World) (e : TypeId) (x : Fld) (cs : List Value) (h : (kX w0).K W x cs) : (kX w0).C (W.alloc (.cells cs.toArray e)) (some ⟨W.heap.size, 0, none⟩) 1 [x] := by
  refine ⟨rfl, by decide, fun _ => ⟨_, rfl, fun j p hj => ?_⟩⟩
  have hj0 : j = 0 := by
    rcases Nat.eq_zero_or_pos j with h0 | h0
    · exact h0
    · rw [List.getElem?_eq_none (by simp; omega)] at hj; cases hj
  subst hj0
  obtain rfl : x = p := by simpa using hj
  refine ⟨cs, (kX w0).K_len h, h, fun i u hu => ?_⟩
  have hh := heap_alloc_new W (.cells cs.toArray e)
  rw [add_at]
  simp only [World.cell?]
  rw [hh]
  simpa using hu
theorem CX_move {w0 w w' : World} {A : Option Addr} {n : Nat} {l : List Fld} (h : (kX w0).C w A n l) (hm : ∀ ad, A = some ad → w'.heap[ad.block]? = w.heap[ad.block]?) : (kX w0).C w' A n l := by
  obtain ⟨h1, h2, h3⟩ := h
  refine ⟨h1, h2, fun h0 => ?_⟩
  obtain ⟨ad, ha, hc⟩ := h3 h0
  refine ⟨ad, ha, fun j p hj => ?_⟩
  obtain ⟨cc, q1, q2, q3⟩ := hc j p hj
  refine ⟨cc, q1, q2, fun i u hu => ?_⟩
  have hb : (ad.add (j * (kX w0).sz + i)).block = ad.block := by unfold Addr.add; split <;> rfl
  rw [World.cell?_of_block (w := w) (by rw [hb]; exact hm ad ha)]
  exact q3 i u hu
section
variable {ops : Array Oper} {rest : List Oper} {o : Oper} {a : Act} {Q : Exit → Act → World → Prop}
/-- append of fields that are read -/
theorem appF {w0 W : World} (B : Nat) (s x : Operand) (hgd : o.guard = none) (ho : o.op = .call { callee := .builtin .append, args := #[s, x], argTypes := #[88, 88] })
    (v : Value) (xs ys : List Fld) (A : Option Addr) (m c : Nat) (hs : a.eval s = v) (hx : a.eval x = .slice A m c)
    (HO : (kX w0).R 90 W B (fun _ => True) v xs) (HR : (kX w0).C W A m ys) (hB : B ≤ W.heap.size) (hl : (xs.length + m) * 32 ≤ 140737488355328)
    (h : ∀ v1 w1, (kX w0).R 90 w1 B (fun _ => True) v1 (xs ++ ys) → Below B W w1 → W.grownBy w1 v.ownBlock → wpList Try.prog ops Q rest (a.put o.dst v1) w1) :
    wpList Try.prog ops Q (o :: rest) a W :=
  Kd.R_append_rows (kX w0) (Rr := (kX w0).K W) (w0 := W) B hgd s x 88 90 (.agg #[.int .u8 0, .slice none 0 0]) 32 ho Try.underlying88 info_F rfl (by show 0 < 2; decide) (by decide) v xs ys A m c (fun _ => True) (fun _ => False) hs hx HO HR (fun _ _ hk => hk) (fun _ hk => hk.elim) (fun _ _ => trivial) (Below.refl _ _) hB hl (fun v1 w1 h1 h2 h3 _ => h v1 w1 h1 h2 h3)
end
theorem bl_low {B B' : Nat} {W w : World} (h : Below B W w) (hb : B' ≤ B) : Below B' W w := ⟨h.os, h.tape, h.output, h.size, fun i hi => h.block i (by omega)⟩
theorem find_app (l : List Fld) (t : Int) (d : List Int) (A : Option Addr) (c : Nat) (w : World) (hC : kF.C w A (l.length + 1) (l ++ [(t, d)])) (hd : ∀ f ∈ l, f.2.length ≤ 17000) (hd2 : d.length ≤ 17000) :
    Calls Try.prog 53 #[.slice A (l.length + 1) c, .int .u8 t] w fun e w' => ∃ v0 : Value, e = .returned (.tuple #[v0, .bool true]) ∧ (Kd.int .u8).R 5 w' w.heap.size (fun _ => True) v0 ((findL t l).getD d) ∧ Below w.heap.size w w' := by
  have hl : (l ++ [(t, d)]).length = l.length + 1 := by simp
  rw [← hl] at hC ⊢
  have := find_any _ A c t w hC (fun f hf => by
    rcases List.mem_append.1 hf with h | h
    · have := hd f h; omega
    · obtain rfl := List.mem_singleton.1 h
      show d.length ≤ _
      omega)
  rw [findL_app t d l] at this
  exact this
/-- what is read, and what is read through the older world -/
theorem kX_of {w0 : World} {A : Option Addr} {n : Nat} {l : List Fld} (h : kF.C w0 A n l) : (kX w0).C w0 A n l := h
theorem gr_low {B : Nat} {W w : World} (h : Below B W w) (hs : W.heap.size ≤ w.heap.size) : Q.Gr B none W w := ⟨h.os, h.tape, h.output, hs, fun k hk _ => h.block k hk⟩
end Go.Proofs.Ytigbmbmngkmdlaa.V
