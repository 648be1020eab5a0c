/-
  keys: the state of the law KeysOnce, and how it goes on behind each step.
-/
import Derived.Test.YtigbmbmngkmdlaaKh
namespace Go.Proofs.Ytigbmbmngkmdlaa.Ke
open Go.RowKit Go.Proofs.Ytigbmbmngkmdlaa.L Go.Proofs.YtigbmbmngkmdlaaW.PrintWords

/-- what was put on the way: its base, its bytes, where they lie -/
abbrev En := Nat × List Int × Option Addr × Nat
/-- a piece of what was typed -/
def Pc (T : List Int) (e : En) : Prop := e.1 + e.2.1.length ≤ T.length ∧ e.2.1 = (T.drop e.1).take e.2.1.length ∧ e.2.1.length ≤ 512 ∧ e.2.1.length ≤ e.2.2.2
theorem Pc.app {T : List Int} {e : En} (h : Pc T e) (B : List Int) : Pc (T ++ B) e := by
  obtain ⟨h1, h2, h3, h4⟩ := h
  refine ⟨by rw [List.length_append]; omega, ?_, h3, h4⟩
  rw [List.drop_append_of_le_length (by omega), List.take_append_of_le_length (by rw [List.length_drop]; omega)]
  exact h2
theorem take_piece {T : List Int} {e : En} (h : Pc T e) {kn : Nat} (hk : kn ≤ T.length) : ∃ (L : List Int) (E : Int), stR kn e.1 e.2.1 = (L, E, ((kn + L.length : Nat) : Int)) ∧ (E = 0 ∨ E = 30) ∧ T.take kn ++ L = T.take (kn + L.length) ∧ kn + L.length ≤ T.length ∧ L.length ≤ 512 := by
  obtain ⟨h1, h2, h3, h4⟩ := h
  obtain ⟨f, d, A, c⟩ := e
  simp only at h1 h2 h3 h4 ⊢
  unfold stR
  rw [if_neg (by omega)]
  by_cases a : (kn : Int) < (f : Int)
  · rw [if_pos a]
    exact ⟨[], 30, by simp, .inr rfl, by simp, by simpa using hk, by simp⟩
  · rw [if_neg a]
    by_cases b : (d.length : Int) ≤ (kn : Int) - (f : Int)
    · rw [if_pos b]
      exact ⟨[], 0, by simp, .inl rfl, by simp, by simpa using hk, by simp⟩
    · rw [if_neg b]
      have e1 : ((kn : Int) - (f : Int)).toNat = kn - f := by omega
      rw [e1]
      have hl : (d.drop (kn - f)).length = d.length - (kn - f) := List.length_drop
      refine ⟨d.drop (kn - f), 0, by rw [hl]; simp only [Prod.mk.injEq, true_and]; omega, .inl rfl, ?_, by rw [hl]; omega, by rw [hl]; omega⟩
      have hd : d.drop (kn - f) = (T.drop kn).take (d.length - (kn - f)) := by
        conv => lhs; rw [h2]
        rw [List.drop_take, List.drop_drop]
        congr 2
        omega
      rw [hl, hd]
      rw [List.take_add]
theorem last_take {T : List Int} {n kn : Nat} (h1 : n ≤ kn) (h2 : kn ≤ T.length) (h3 : T.length ≤ n + 512) : stR kn n (T.drop n) = (T.drop kn, 0, (T.length : Int)) := by
  have hl : (T.drop n).length = T.length - n := List.length_drop
  unfold stR
  rw [hl, if_neg (by omega), if_neg (by omega)]
  by_cases b : ((T.length - n : Nat) : Int) ≤ (kn : Int) - (n : Int)
  · rw [if_pos b]
    have : kn = T.length := by omega
    subst this
    simp
  · rw [if_neg b, List.drop_drop]
    have e1 : n + ((kn : Int) - (n : Int)).toNat = kn := by omega
    rw [e1]
    simp only [Prod.mk.injEq, true_and]
    omega

def kS : Kd (Option Addr × Nat × Nat) := Kd.scalar (fun p => Value.slice p.1 p.2.1 p.2.2) (fun _ => rfl)
theorem info_sl : (Try.prog.info? 25).map (fun i => (i.zero, i.size, i.bytes)) = some (some (.slice none 0 0), 1, 24) := by kernel_rfl
theorem info_u64 : (Try.prog.info? 22).map (fun i => (i.zero, i.size, i.bytes)) = some (some (.int .u64 0), 1, 8) := by kernel_rfl
theorem R_keep {α : Type} {enc : α → Value} {h1 : ∀ x, (enc x).oneCell' = true} {e : TypeId} {w w1 : World} {B : Nat} {v : Value} {l : List α} {row : Option Nat} (h : (Kd.scalar enc h1).R e w B (fun _ => True) v l) (hg : w.grownBy w1 row) (hne : ∀ k, v.ownBlock = some k → some k ≠ row) : (Kd.scalar enc h1).R e w1 B (fun _ => True) v l :=
  Kd.R_of_own (own_move (Kd.own_of_R h) (fun k hk => hg.block k (Kd.R_lt h k hk) (hne k hk))) (fun _ _ => trivial)
theorem CT.row {w w1 : World} {A : Option Addr} {l : List Int} {row : Option Nat} (h : CT w A l) (hg : w.grownBy w1 row) (hA : ∀ ad, A = some ad → some ad.block ≠ row) : CT w1 A l := by
  have hm : ∀ ad, A = some ad → w1.heap[ad.block]? = w.heap[ad.block]? := fun ad ha => hg.block _ (h.T.lt ha) (hA ad ha)
  exact ⟨C_move h.C hm, h.T.move hm⟩
theorem own_ne2 {α β : Type} {d : Kd α} {d' : Kd β} {e e' : TypeId} {w : World} {B B' : Nat} {ok ok' : Nat → Prop} {v v' : Value} {l : List α} {l' : List β} (h : d.R e w B ok v l) (h' : d'.R e' w B' ok' v' l') (hne : e ≠ e') : ∀ k, v'.ownBlock = some k → some k ≠ v.ownBlock := fun k hk => by
  obtain ⟨inner, ho⟩ := Kd.R_own h'
  obtain ⟨cells, hc⟩ := own_typed ho k hk
  exact Kd.R_ne h hc hne
theorem ty_ne {α : Type} {d : Kd α} {e e' : TypeId} {w : World} {B : Nat} {ok : Nat → Prop} {v : Value} {l : List α} {A : Option Addr} (h : d.R e w B ok v l) (hT : Ty w e' A) (hne : e ≠ e') : ∀ ad, A = some ad → some ad.block ≠ v.ownBlock := fun ad ha he => by
  obtain ⟨inner, ho⟩ := Kd.R_own h
  obtain ⟨cells, hc⟩ := own_typed ho ad.block he.symm
  obtain ⟨cs, fr, h1⟩ := hT ad ha
  rw [hc] at h1
  injection h1 with h1
  injection h1 with _ h2 _
  exact hne h2

/-- the law's state -/
structure On (w0 : World) (bs bk : Nat) (T D : List Int) (n kn tk : Nat) (G7 G8 : List En) (X : List (Nat × Array Value)) (v5 v6 v7 v8 : Value) (w : World) : Prop where
  st : ∃ A, StA bs n D A w ∧ Apt A v5 ∧ Apt A v6
  sk : Sk bk kn w
  r5 : (Kd.int .u8).R 5 w w0.heap.size (fun _ => True) v5 T
  r6 : (Kd.int .u8).R 5 w w0.heap.size (fun _ => True) v6 (T.take tk)
  r7 : (Kd.int .u64).R 22 w w0.heap.size (fun _ => True) v7 (G7.map (fun e => (e.1 : Int)))
  r8 : kS.R 25 w w0.heap.size (fun _ => True) v8 (G8.map (fun e => (e.2.2.1, e.2.1.length, e.2.2.2)))
  ap : ∀ k, v5.ownBlock = some k → some k ≠ v6.ownBlock
  en : ∀ e ∈ G8, CT w e.2.2.1 e.2.1 ∧ Apt e.2.2.1 v5 ∧ Apt e.2.2.1 v6 ∧ Pc T e
  bx : ∀ q ∈ X, w.heap[q.1]? = some (.cells q.2 65 (0, 0))
  be : Below w0.heap.size w0 w
  ls : w0.heap.size ≤ bs
  lk : w0.heap.size ≤ bk
section
variable {w0 : World} {bs bk : Nat} {T D : List Int} {n kn tk : Nat} {G7 G8 : List En} {X : List (Nat × Array Value)} {v5 v6 v7 v8 : Value} {w w1 : World}
theorem On.below (h : On w0 bs bk T D n kn tk G7 G8 X v5 v6 v7 v8 w) (hb : Below w.heap.size w w1) : On w0 bs bk T D n kn tk G7 G8 X v5 v6 v7 v8 w1 := by
  obtain ⟨⟨A, a1, a2, a3⟩, h2, h3, h4, h5, h6, h7, h8, hx, h9, h10, h11⟩ := h
  exact ⟨⟨A, a1.below hb, a2, a3⟩, h2.below hb, Kd.R_below h3 hb, Kd.R_below h4 hb, Kd.R_below h5 hb, Kd.R_below h6 hb, h7, fun e he => ⟨(h8 e he).1.below hb, (h8 e he).2⟩, fun q hq => (hb.block q.1 (Array.getElem?_eq_some_iff.1 (hx q hq)).1).trans (hx q hq), stay1 h9 hb, h10, h11⟩
theorem elim_st (h : ∃ A, StA bs n D A w ∧ Apt A v5 ∧ Apt A v6) : St bs n D w := by
  obtain ⟨A, h, _⟩ := h
  exact h.st
theorem On.unbox (h : On w0 bs bk T D n kn tk G7 G8 X v5 v6 v7 v8 w) : On w0 bs bk T D n kn tk G7 G8 [] v5 v6 v7 v8 w := by
  obtain ⟨h1, h2, h3, h4, h5, h6, h7, h8, hx, h9, h10, h11⟩ := h
  exact ⟨h1, h2, h3, h4, h5, h6, h7, h8, by simp, h9, h10, h11⟩
theorem On.box (h : On w0 bs bk T D n kn tk G7 G8 X v5 v6 v7 v8 w) (cs : Array Value) : On w0 bs bk T D n kn tk G7 G8 [(w.heap.size, cs)] v5 v6 v7 v8 (w.alloc (.cells cs 65)) := by
  obtain ⟨h1, h2, h3, h4, h5, h6, h7, h8, hx, h9, h10, h11⟩ := h.below (w1 := w.alloc (.cells cs 65)) ((Below.refl _ _).alloc (Nat.le_refl _) _)
  exact ⟨h1, h2, h3, h4, h5, h6, h7, h8, fun q hq => by simp only [List.mem_singleton] at hq; subst hq; exact heap_alloc_new w _, h9, h10, h11⟩
theorem On.cells {b : Nat} {x0 x1 x2 x3 : Value} (h : On w0 bs bk T D n kn tk G7 G8 [(b, #[x0, x1, x2, x3])] v5 v6 v7 v8 w) : w.cell? ⟨b, 0, none⟩ = some x0 ∧ w.cell? ⟨b, 1, none⟩ = some x1 ∧ w.cell? ⟨b, 2, none⟩ = some x2 ∧ w.cell? ⟨b, 3, none⟩ = some x3 := by
  have h' := h.bx _ (List.mem_singleton.2 rfl)
  simp only at h'
  exact ⟨by simp [World.cell?, h'], by simp [World.cell?, h'], by simp [World.cell?, h'], by simp [World.cell?, h']⟩
/-- behind a call that writes the stream -/
theorem On.stream {n' : Nat} {D' : List Int} {A A' : Option Addr} (h : On w0 bs bk T D n kn tk G7 G8 X v5 v6 v7 v8 w) (hA : StA bs n D A w) (hp5 : Apt A v5) (hp6 : Apt A v6) (hs : StA bs n' D' A' w1) (hf : Fr w A A') (hg : w.grownBy w1 (some bs)) : On w0 bs bk T D' n' kn tk G7 G8 X v5 v6 v7 v8 w1 := by
  obtain ⟨_, h2, h3, h4, h5, h6, h7, h8, hx, h9, h10, h11⟩ := h
  have hS := hA.st
  obtain ⟨cc, hbs, _⟩ := hA
  exact ⟨⟨A', hs, hp5.fresh hf (Kd.R_lt h3), hp6.fresh hf (Kd.R_lt h4)⟩, h2.stream hS hg,
    R_keep h3 hg (fun k hk e => Kd.R_ne h3 hbs (by decide) (by rw [hk]; exact e.symm)), R_keep h4 hg (fun k hk e => Kd.R_ne h4 hbs (by decide) (by rw [hk]; exact e.symm)),
    R_keep h5 hg (fun k hk e => Kd.R_ne h5 hbs (by decide) (by rw [hk]; exact e.symm)), R_keep h6 hg (fun k hk e => Kd.R_ne h6 hbs (by decide) (by rw [hk]; exact e.symm)),
    h7, fun e he => ⟨(h8 e he).1.st hS hg, (h8 e he).2⟩, fun q hq => (hg.block q.1 (Array.getElem?_eq_some_iff.1 (hx q hq)).1 (fun e => obj_ne (hx q hq) hbs (by decide) (by injection e))).trans (hx q hq), bgrow h9 hg h10, h10, h11⟩
/-- behind a call that writes the sink -/
theorem On.sink {kn' : Nat} (h : On w0 bs bk T D n kn tk G7 G8 X v5 v6 v7 v8 w) (hs : Sk bk kn' w1) (hg : w.grownBy w1 (some bk)) : On w0 bs bk T D n kn' tk G7 G8 X v5 v6 v7 v8 w1 := by
  obtain ⟨⟨A, a1, a2, a3⟩, h2, h3, h4, h5, h6, h7, h8, hx, h9, h10, h11⟩ := h
  have hb : w.heap[bk]? = _ := h2
  have hA : StA bs n D A w1 := by
    have ht := a1.ty
    obtain ⟨c, q1, q2, q3, q4⟩ := a1
    have hm := grown_keep hg q4 hb (by decide)
    exact ⟨c, (hg.block bs (Array.getElem?_eq_some_iff.1 q1).1 (fun e => obj_ne q1 hb (by decide) (by injection e))).trans q1, q2, C_move q3 hm, q4.move hm⟩
  exact ⟨⟨A, hA, a2, a3⟩, hs, R_keep h3 hg (fun k hk e => Kd.R_ne h3 hb (by decide) (by rw [hk]; exact e.symm)), R_keep h4 hg (fun k hk e => Kd.R_ne h4 hb (by decide) (by rw [hk]; exact e.symm)),
    R_keep h5 hg (fun k hk e => Kd.R_ne h5 hb (by decide) (by rw [hk]; exact e.symm)), R_keep h6 hg (fun k hk e => Kd.R_ne h6 hb (by decide) (by rw [hk]; exact e.symm)), h7, fun e he => ⟨(h8 e he).1.sk h2 hg, (h8 e he).2⟩, fun q hq => (hg.block q.1 (Array.getElem?_eq_some_iff.1 (hx q hq)).1 (fun e => obj_ne (hx q hq) hb (by decide) (by injection e))).trans (hx q hq), bgrow h9 hg h11, h10, h11⟩
/-- what is no row of bytes, behind a row's growth -/
theorem obj_keep {α : Type} {d : Kd α} {e t : TypeId} {B : Nat} {ok : Nat → Prop} {v : Value} {l : List α} {b : Nat} {cs : Array Value} (hR : d.R e w B ok v l) (hg : w.grownBy w1 v.ownBlock) (hb : w.heap[b]? = some (.cells cs t (0, 0))) (hne : t ≠ e) : w1.heap[b]? = some (.cells cs t (0, 0)) :=
  (hg.block b (Array.getElem?_eq_some_iff.1 hb).1 (Kd.R_ne hR hb hne.symm)).trans hb
theorem grown_base {α : Type} {d : Kd α} {e : TypeId} {ok : Nat → Prop} {v : Value} {l : List α} (hR : d.R e w w0.heap.size ok v l) (h : Below w0.heap.size w0 w) (hg : w.grownBy w1 v.ownBlock) : Below w0.heap.size w0 w1 := h.grown hg h.size (fun k hk => Kd.R_base hR k hk)
/-- typed has grown -/
theorem On.typed {B : List Int} {v : Value} (h : On w0 bs bk T D n kn tk G7 G8 X v5 v6 v7 v8 w) (hk : tk ≤ T.length) (hR : (Kd.int .u8).R 5 w1 w0.heap.size (fun _ => True) v (T ++ B)) (hg : w.grownBy w1 v5.ownBlock) (hat : v.ownBlock = v5.ownBlock ∨ ∃ b, v.ownBlock = some b ∧ w.heap.size ≤ b) : On w0 bs bk (T ++ B) D n kn tk G7 G8 X v v6 v7 v8 w1 := by
  obtain ⟨⟨A, a1, a2, a3⟩, h2, h3, h4, h5, h6, h7, h8, hx, h9, h10, h11⟩ := h
  have q1 := a1.ty
  refine ⟨⟨A, a1.row hg (a1.ne h3) a2, a2.grow q1 hat, a3⟩, obj_keep h3 hg h2 (by decide), hR, ?_, R_keep h5 hg (own_ne2 h3 h5 (by decide)), R_keep h6 hg (own_ne2 h3 h6 (by decide)), ?_, fun e he => ?_, fun q hq => obj_keep h3 hg (hx q hq) (by decide), grown_base h3 h9 hg, h10, h11⟩
  · rw [List.take_append_of_le_length hk]
    exact R_keep h4 hg (fun k hk e => by
      cases h5k : v5.ownBlock with
      | none => rw [h5k] at e; cases e
      | some j => rw [h5k] at e; injection e with e; subst e; exact h7 k h5k hk.symm)
  · intro k hk hk6
    rcases hat with e | ⟨b, e, hb⟩
    · exact h7 k (e ▸ hk) hk6
    · rw [hk] at e
      injection e with e
      subst e
      have := Kd.R_lt h4 k hk6.symm
      omega
  · obtain ⟨e1, e2, e3, e4⟩ := h8 e he
    exact ⟨e1.row hg e2, e2.grow e1.T hat, e3, e4.app B⟩
/-- took has grown -/
theorem On.took {tk' : Nat} {v : Value} (h : On w0 bs bk T D n kn tk G7 G8 X v5 v6 v7 v8 w) (hR : (Kd.int .u8).R 5 w1 w0.heap.size (fun _ => True) v (T.take tk')) (hg : w.grownBy w1 v6.ownBlock) (hat : v.ownBlock = v6.ownBlock ∨ ∃ b, v.ownBlock = some b ∧ w.heap.size ≤ b) : On w0 bs bk T D n kn tk' G7 G8 X v5 v v7 v8 w1 := by
  obtain ⟨⟨A, a1, a2, a3⟩, h2, h3, h4, h5, h6, h7, h8, hx, h9, h10, h11⟩ := h
  have q1 := a1.ty
  refine ⟨⟨A, a1.row hg (a1.ne h4) a3, a2, a3.grow q1 hat⟩, obj_keep h4 hg h2 (by decide), R_keep h3 hg h7, hR, R_keep h5 hg (own_ne2 h4 h5 (by decide)), R_keep h6 hg (own_ne2 h4 h6 (by decide)), ?_, fun e he => ?_, fun q hq => obj_keep h4 hg (hx q hq) (by decide), grown_base h4 h9 hg, h10, h11⟩
  · intro k hk hk6
    rcases hat with e | ⟨b, e, hb⟩
    · exact h7 k hk (hk6.trans e)
    · have := Kd.R_lt h3 k hk
      rw [← hk6] at e
      injection e with e
      omega
  · obtain ⟨e1, e2, e3, e4⟩ := h8 e he
    exact ⟨e1.row hg e3, e2, e3.grow e1.T hat, e4⟩
/-- a base more -/
theorem On.base {e : En} {v : Value} (h : On w0 bs bk T D n kn tk G7 G8 X v5 v6 v7 v8 w) (hR : (Kd.int .u64).R 22 w1 w0.heap.size (fun _ => True) v (G7.map (fun e => (e.1 : Int)) ++ [(e.1 : Int)])) (hg : w.grownBy w1 v7.ownBlock) : On w0 bs bk T D n kn tk (G7 ++ [e]) G8 X v5 v6 v v8 w1 := by
  obtain ⟨⟨A, a1, a2, a3⟩, h2, h3, h4, h5, h6, h7, h8, hx, h9, h10, h11⟩ := h
  have hT := ty_ne h5 a1.ty (by decide)
  have hb : some bs ≠ v7.ownBlock := by
    obtain ⟨_, q, _⟩ := a1
    exact Kd.R_ne h5 q (by decide)
  refine ⟨⟨A, a1.row hg hb hT, a2, a3⟩, obj_keep h5 hg h2 (by decide), R_keep h3 hg (own_ne2 h5 h3 (by decide)), R_keep h4 hg (own_ne2 h5 h4 (by decide)), by rw [List.map_append]; exact hR, R_keep h6 hg (own_ne2 h5 h6 (by decide)), h7, fun e he => ?_, fun q hq => obj_keep h5 hg (hx q hq) (by decide), grown_base h5 h9 hg, h10, h11⟩
  obtain ⟨e1, e2⟩ := h8 e he
  exact ⟨e1.row hg (ty_ne h5 e1.T (by decide)), e2⟩
/-- a piece more -/
theorem On.piece {e : En} {v : Value} (h : On w0 bs bk T D n kn tk G7 G8 X v5 v6 v7 v8 w) (hC : CT w e.2.2.1 e.2.1) (p5 : Apt e.2.2.1 v5) (p6 : Apt e.2.2.1 v6) (hP : Pc T e) (hR : kS.R 25 w1 w0.heap.size (fun _ => True) v (G8.map (fun e => (e.2.2.1, e.2.1.length, e.2.2.2)) ++ [(e.2.2.1, e.2.1.length, e.2.2.2)])) (hg : w.grownBy w1 v8.ownBlock) : On w0 bs bk T D n kn tk G7 (G8 ++ [e]) X v5 v6 v7 v w1 := by
  obtain ⟨⟨A, a1, a2, a3⟩, h2, h3, h4, h5, h6, h7, h8, hx, h9, h10, h11⟩ := h
  have hT := ty_ne h6 a1.ty (by decide)
  have hb : some bs ≠ v8.ownBlock := by
    obtain ⟨_, q, _⟩ := a1
    exact Kd.R_ne h6 q (by decide)
  refine ⟨⟨A, a1.row hg hb hT, a2, a3⟩, obj_keep h6 hg h2 (by decide), R_keep h3 hg (own_ne2 h6 h3 (by decide)), R_keep h4 hg (own_ne2 h6 h4 (by decide)), R_keep h5 hg (own_ne2 h6 h5 (by decide)), by rw [List.map_append]; exact hR, h7, fun e' he => ?_, fun q hq => obj_keep h6 hg (hx q hq) (by decide), grown_base h6 h9 hg, h10, h11⟩
  rcases List.mem_append.1 he with he | he
  · obtain ⟨e1, e2⟩ := h8 e' he
    exact ⟨e1.row hg (ty_ne h6 e1.T (by decide)), e2⟩
  · obtain rfl := List.mem_singleton.1 he
    exact ⟨hC.row hg (ty_ne h6 hC.T (by decide)), p5, p6, hP⟩
/-- an entry, as it lies -/
theorem On.at_ (h : On w0 bs bk T D n kn tk G7 G8 X v5 v6 v7 v8 w) (c : Nat) (h7 : c < G7.length) (h8 : c < G8.length) : ∃ b7 c7 b8 c8, v7 = .slice (some ⟨b7, 0, none⟩) G7.length c7 ∧ v8 = .slice (some ⟨b8, 0, none⟩) G8.length c8 ∧ w.cell? ⟨b7, c, none⟩ = some (.int .u64 (G7[c]).1) ∧ w.cell? ⟨b8, c, none⟩ = some (.slice (G8[c]).2.2.1 (G8[c]).2.1.length (G8[c]).2.2.2) := by
  have l7 : (G7.map (fun e => (e.1 : Int))).length = G7.length := List.length_map _
  have l8 : (G8.map (fun e => (e.2.2.1, e.2.1.length, e.2.2.2))).length = G8.length := List.length_map _
  have r7 := h.r7
  have r8 := h.r8
  obtain ⟨b7, c7, e7, _⟩ := Kd.R_form r7 (by omega)
  obtain ⟨b8, c8, e8, _⟩ := Kd.R_form r8 (by omega)
  subst e7
  subst e8
  have q7 := (Kd.R_cell (0 : Int) r7 (c : Int) (by omega) (by omega)).1
  have q8 := (Kd.R_cell ((none, 0, 0) : Option Addr × Nat × Nat) r8 (c : Int) (by omega) (by omega)).1
  refine ⟨b7, c7, b8, c8, by rw [l7], by rw [l8], ?_, ?_⟩
  · rw [Int.toNat_natCast] at q7
    rw [q7, rdOf, Int.toNat_natCast, List.getD_eq_getElem?_getD, List.getElem?_map, List.getElem?_eq_getElem h7]
    rfl
  · rw [Int.toNat_natCast] at q8
    rw [q8, rdOf, Int.toNat_natCast, List.getD_eq_getElem?_getD, List.getElem?_map, List.getElem?_eq_getElem h8]
    rfl
end
/-- s[:hi] -/
theorem cut_to {P : Program} (t e : TypeId) {i : TypeInfo} (ht : P.underlying t = some (.slice e)) (hi : P.info? e = some i) (A : Option Addr) (n c m : Nat) (hc : m ≤ c) :
    ∀ W : World, (Instr.slice t (.slice A n c) none (some (.int .i64 m)) none).run P W = .ok (.slice A m c) W := by
  intro W
  have e1 : ∀ a : Addr, Addr.add a 0 = a := fun a => by simp [Addr.add]
  have e2 : (Option.map (fun x : Addr => x.add 0) A) = A := by cases A <;> simp [e1]
  simp [Instr.slice, run_underlying ht, Instr.sliceBounds, Instr.sliceBound, asIntOf, hc, sizeOf, typeInfo, hi, Result.andThen, e2]
theorem C_to {k : IntKind} {w : World} {A : Option Addr} {n m : Nat} {l : List Int} (h : (Kd.int k).C w A n l) (hm : m ≤ n) : (Kd.int k).C w A m (l.take m) := by
  obtain ⟨h1, h2, h3⟩ := h
  refine ⟨by rw [List.length_take]; omega, by omega, fun h0 => ?_⟩
  obtain ⟨ad, ha, hc⟩ := h3 (by omega)
  refine ⟨ad, ha, fun j p hj => hc j p ?_⟩
  have hjm : j < m := by have := (List.getElem?_eq_some_iff.1 hj).1; rw [List.length_take] at this; omega
  rw [List.getElem?_take_of_lt hjm] at hj
  exact hj
theorem gw_cell {W : World} {B : Nat} {row : Option Nat} (m : Q.GW W B row) {ad : Addr} {v : Value} (h : W.cell? ad = some v) (hb : ad.block < B) (hr : some ad.block ≠ row) : m.w.cell? ad = some v := by
  have := m.h.block _ hb hr
  unfold World.cell? at h ⊢
  rw [this]
  exact h
section
variable {P : Program} {ops : Array Oper} {rest : List Oper} {o : Oper} {a : Act} {Q : Exit → Act → World → Prop}
/-- append(s, ys...) that is guarded, the guard open -/
theorem appg {w0 W : World} (k : IntKind) (B : Nat) (s x : Operand) (t e : TypeId) (bytes : Nat) (hw : Region.wanted o (yielded ops a.tmps) = true)
    (ho : o.op = .call { callee := .builtin .append, args := #[s, x], argTypes := #[t, t] }) (ht : P.underlying t = some (.slice e))
    (hinfo : (P.info? e).map (fun i => (i.zero, i.size, i.bytes)) = some (some (.int k 0), 1, bytes)) (hb0 : 0 < bytes)
    (v : Value) (xs ys : List Int) (A : Option Addr) (m c : Nat) (hs : a.eval s = v) (hx : a.eval x = .slice A m c)
    (HO : (Kd.int k).R e W B (fun _ => True) v xs) (HR : (Kd.int k).C W A m ys) (HB : Below B w0 W) (hB : B ≤ W.heap.size) (hl : (xs.length + m) * bytes ≤ 140737488355328)
    (h : ∀ v1 w1, (Kd.int k).R e w1 B (fun _ => True) v1 (xs ++ ys) → Below B w0 w1 → W.grownBy w1 v.ownBlock → wpList P ops Q rest (a.put o.dst v1) w1) :
    wpList P ops Q (o :: rest) a W := by
  have key := appn2 (P := P) (ops := ops) (rest := rest) (o := { o with guard := none }) (a := a) (Q := Q) (w0 := w0) k B s x t e bytes rfl ho ht hinfo hb0 v xs ys A m c hs hx HO HR HB hB hl (fun v1 w1 h1 h2 h3 _ => h v1 w1 h1 h2 h3)
  unfold wpList at key ⊢
  rw [if_pos hw]
  rw [if_pos (show Region.wanted { o with guard := none } _ = true from rfl)] at key
  exact key
end
/-- Type, whatever it answers -/
theorem type_ex (b : Nat) (n : Int) (l l2 : List Int) (A A2 : Option Addr) (c2 : Nat) (w : World) (h : StA b n l A w) (hl : l.length ≤ 512) (hC2 : (Kd.int .u8).C w A2 l2.length l2) :
    Calls Try.prog 24 #[.pointer (some ⟨b, 0, none⟩), .slice A2 l2.length c2] w fun e w' => ∃ (E : Int) (D' : List Int) (A' : Option Addr), e = .returned (.int .i64 E) ∧ ((E = 0 ∧ D' = l ++ l2 ∧ D'.length ≤ 512) ∨ (E = 5 ∧ D' = l)) ∧ StA b n D' A' w' ∧ Fr w A A' ∧ w.grownBy w' (some b) := by
  by_cases hf : l.length + l2.length ≤ 512
  · refine (type_yesA b n l l2 A A2 l2.length c2 w h rfl hl hf hC2).mono ?_
    rintro e w1 ⟨he, ⟨A', h1, h2⟩, h3⟩
    exact ⟨0, _, A', he, .inl ⟨rfl, rfl, by rw [List.length_append]; omega⟩, h1, h2, h3⟩
  · refine (type_no b n l A2 l2.length c2 w h.st hl (by omega)).mono ?_
    rintro e w1 ⟨he, rfl⟩
    exact ⟨5, l, A, he, .inr ⟨rfl, rfl⟩, h, .inl rfl, World.grownBy.refl _ _⟩
/-- Take of a piece -/
theorem take_ex (k : Nat) (kn : Nat) (T : List Int) (e : En) (w : World) (hP : Pc T e) (h : Sk k kn w) (hC : (Kd.int .u8).C w e.2.2.1 e.2.1.length e.2.1) (hk : kn ≤ T.length) (hT : T.length < 1000000) :
    Calls Try.prog 31 #[.pointer (some ⟨k, 0, none⟩), .int .u64 e.1, .slice e.2.2.1 e.2.1.length e.2.2.2] w fun x w' => ∃ (v0 : Value) (L : List Int) (E : Int), x = .returned (.tuple #[v0, .int .i64 E]) ∧ (E = 0 ∨ E = 30) ∧ T.take kn ++ L = T.take (kn + L.length) ∧ kn + L.length ≤ T.length ∧ (Kd.int .u8).R 5 w' w.heap.size (fun _ => True) v0 L ∧ Sk k ((kn + L.length : Nat) : Int) w' ∧ w.grownBy w' (some k) := by
  obtain ⟨L, E, h1, h2, h3, h4, _⟩ := take_piece hP hk
  refine (stake_ex k kn e.1 e.2.1 L E _ e.2.2.1 e.2.2.2 w h1 h hC hP.2.2.2 (by omega) (by omega) (by omega)).mono ?_
  rintro x w1 ⟨v0, a, b, c, d⟩
  exact ⟨v0, L, E, a, h2, h3, h4, b, c, d⟩
end Go.Proofs.Ytigbmbmngkmdlaa.Ke
