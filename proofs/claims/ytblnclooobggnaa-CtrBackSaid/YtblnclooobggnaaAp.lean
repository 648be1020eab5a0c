/-
  aes: unlike blocks are turned to unlike ones, in plain Lean.
-/
import Derived.Test.YtblnclooobggnaaAh
namespace Go.Proofs.Ytblnclooobggnaa.A
open Go.RowKit Go.Proofs.Ytblnclooobggnaa.L Go.Proofs.Ytblnclooobggnaa.N

theorem dbl_xor : ∀ a, a < 256 → ∀ b, b < 256 → dbl (a ^^^ b) = dbl a ^^^ dbl b := by decide +kernel
def invL : List Nat := (List.range 256).foldl (fun l x => l.set (bxv x) x) (List.replicate 256 0)
theorem inv_box : ∀ a, a < 256 → invL.getD (bxv a) 0 = a := by decide +kernel
theorem bxv_inj {a b : Nat} (ha : a < 256) (hb : b < 256) (h : bxv a = bxv b) : a = b := by
  rw [← inv_box a ha, h, inv_box b hb]
theorem xor_cancel {a b c : Nat} (h : a ^^^ c = b ^^^ c) : a = b := by
  have := congrArg (· ^^^ c) h
  simpa [Nat.xor_assoc, Nat.xor_self] using this
theorem b6 : ∀ x y A B p q : Bool, (((x ^^ A) ^^ p) = ((y ^^ B) ^^ q)) → (((x ^^ y) ^^ (A ^^ B)) = (p ^^ q)) := by decide
theorem eq_step {x y A B p q : Nat} (h : (x ^^^ A) ^^^ p = (y ^^^ B) ^^^ q) : (x ^^^ y) ^^^ (A ^^^ B) = p ^^^ q := by
  apply Nat.eq_of_testBit_eq
  intro i
  have := congrArg (Nat.testBit · i) h
  simp only [Nat.testBit_xor] at this ⊢
  exact b6 _ _ _ _ _ _ this
theorem b8 : ∀ d0 d1 d2 d3 D0 D1 D2 D3 : Bool, ((d0 ^^ (((d0 ^^ d1) ^^ d2) ^^ d3)) = (D0 ^^ D1)) → ((d1 ^^ (((d0 ^^ d1) ^^ d2) ^^ d3)) = (D1 ^^ D2)) → ((d2 ^^ (((d0 ^^ d1) ^^ d2) ^^ d3)) = (D2 ^^ D3)) → ((d3 ^^ (((d0 ^^ d1) ^^ d2) ^^ d3)) = (D3 ^^ D0)) → (((d0 ^^ d1) ^^ d2) ^^ d3) = false := by decide
theorem zero_of_bits {n : Nat} (h : ∀ i, n.testBit i = false) : n = 0 := Nat.eq_of_testBit_eq fun i => by rw [h i, Nat.zero_testBit]
theorem eq_of_xor {a b : Nat} (h : a ^^^ b = 0) : a = b := by
  have : a ^^^ b = b ^^^ b := by rw [h, Nat.xor_self]
  exact xor_cancel this
theorem b4 : ∀ d0 d2 D0 D1 D2 D3 : Bool, d0 = (D0 ^^ D1) → d2 = (D2 ^^ D3) → (((D0 ^^ D1) ^^ D2) ^^ D3) = false → d0 = d2 := by decide
theorem x4 {d0 d2 D0 D1 D2 D3 : Nat} (h0 : d0 = D0 ^^^ D1) (h2 : d2 = D2 ^^^ D3) (h : D0 ^^^ D1 ^^^ D2 ^^^ D3 = 0) : d0 = d2 := by
  apply Nat.eq_of_testBit_eq
  intro i
  have e0 := congrArg (Nat.testBit · i) h0
  have e2 := congrArg (Nat.testBit · i) h2
  have e := congrArg (Nat.testBit · i) h
  simp only [Nat.testBit_xor, Nat.zero_testBit] at e0 e2 e
  exact b4 _ _ _ _ _ _ e0 e2 e
theorem mix_zero {d0 d1 d2 d3 : Nat} (h0 : d0 < 256) (h1 : d1 < 256) (h2 : d2 < 256) (h3 : d3 < 256)
    (f0 : d0 ^^^ (d0 ^^^ d1 ^^^ d2 ^^^ d3) = dbl (d0 ^^^ d1)) (f1 : d1 ^^^ (d0 ^^^ d1 ^^^ d2 ^^^ d3) = dbl (d1 ^^^ d2)) (f2 : d2 ^^^ (d0 ^^^ d1 ^^^ d2 ^^^ d3) = dbl (d2 ^^^ d3)) (f3 : d3 ^^^ (d0 ^^^ d1 ^^^ d2 ^^^ d3) = dbl (d3 ^^^ d0)) :
    d0 = 0 ∧ d1 = 0 ∧ d2 = 0 ∧ d3 = 0 := by
  rw [dbl_xor _ h0 _ h1] at f0
  rw [dbl_xor _ h1 _ h2] at f1
  rw [dbl_xor _ h2 _ h3] at f2
  rw [dbl_xor _ h3 _ h0] at f3
  have hD : d0 ^^^ d1 ^^^ d2 ^^^ d3 = 0 := zero_of_bits fun i => by
    have e0 := congrArg (Nat.testBit · i) f0
    have e1 := congrArg (Nat.testBit · i) f1
    have e2 := congrArg (Nat.testBit · i) f2
    have e3 := congrArg (Nat.testBit · i) f3
    simp only [Nat.testBit_xor] at e0 e1 e2 e3 ⊢
    exact b8 _ _ _ _ _ _ _ _ e0 e1 e2 e3
  have hL : dbl d0 ^^^ dbl d1 ^^^ dbl d2 ^^^ dbl d3 = 0 := by
    rw [← dbl_xor _ h0 _ h1, ← dbl_xor _ (xor8 h0 h1) _ h2, ← dbl_xor _ (xor8 (xor8 h0 h1) h2) _ h3, hD]
    rfl
  rw [hD, Nat.xor_zero] at f0 f1 f2 f3
  have e02 : d0 = d2 := x4 f0 f2 hL
  have e13 : d1 = d3 := x4 f1 f3 (by
    have : dbl d1 ^^^ dbl d2 ^^^ dbl d3 ^^^ dbl d0 = dbl d0 ^^^ dbl d1 ^^^ dbl d2 ^^^ dbl d3 := by
      apply Nat.eq_of_testBit_eq
      intro i
      simp only [Nat.testBit_xor]
      generalize (dbl d0).testBit i = p
      generalize (dbl d1).testBit i = q
      generalize (dbl d2).testBit i = r
      generalize (dbl d3).testBit i = s
      revert p q r s
      decide
    rw [this, hL])
  subst e02
  subst e13
  have e01 : d0 = d1 := by
    rw [Nat.xor_comm] at f1
    exact f0.trans f1.symm
  subst e01
  rw [Nat.xor_self] at f0
  exact ⟨f0, f0, f0, f0⟩
theorem len4 {a : List Nat} (h : a.length = 4) : ∃ a0 a1 a2 a3, a = [a0, a1, a2, a3] := by
  match a, h with
  | [a0, a1, a2, a3], _ => exact ⟨a0, a1, a2, a3, rfl⟩
theorem bsum : ∀ a0 a1 a2 a3 b0 b1 b2 b3 : Bool, ((((a0 ^^ a1) ^^ a2) ^^ a3) ^^ (((b0 ^^ b1) ^^ b2) ^^ b3)) = ((((a0 ^^ b0) ^^ (a1 ^^ b1)) ^^ (a2 ^^ b2)) ^^ (a3 ^^ b3)) := by decide
theorem xsum (a0 a1 a2 a3 b0 b1 b2 b3 : Nat) : (a0 ^^^ a1 ^^^ a2 ^^^ a3) ^^^ (b0 ^^^ b1 ^^^ b2 ^^^ b3) = (a0 ^^^ b0) ^^^ (a1 ^^^ b1) ^^^ (a2 ^^^ b2) ^^^ (a3 ^^^ b3) := by
  apply Nat.eq_of_testBit_eq
  intro i
  simp only [Nat.testBit_xor]
  exact bsum _ _ _ _ _ _ _ _
theorem bpair : ∀ a0 a1 b0 b1 : Bool, ((a0 ^^ a1) ^^ (b0 ^^ b1)) = ((a0 ^^ b0) ^^ (a1 ^^ b1)) := by decide
theorem xpair (a0 a1 b0 b1 : Nat) : (a0 ^^^ a1) ^^^ (b0 ^^^ b1) = (a0 ^^^ b0) ^^^ (a1 ^^^ b1) := by
  apply Nat.eq_of_testBit_eq
  intro i
  simp only [Nat.testBit_xor]
  exact bpair _ _ _ _
theorem mix_inj {a b : List Nat} (ha : a.length = 4) (hb : b.length = 4) (ha8 : ∀ x ∈ a, x < 256) (hb8 : ∀ x ∈ b, x < 256) (h : mixN a = mixN b) : a = b := by
  obtain ⟨a0, a1, a2, a3, rfl⟩ := len4 ha
  obtain ⟨b0, b1, b2, b3, rfl⟩ := len4 hb
  have p0 : a0 < 256 := ha8 _ (by simp)
  have p1 : a1 < 256 := ha8 _ (by simp)
  have p2 : a2 < 256 := ha8 _ (by simp)
  have p3 : a3 < 256 := ha8 _ (by simp)
  have q0 : b0 < 256 := hb8 _ (by simp)
  have q1 : b1 < 256 := hb8 _ (by simp)
  have q2 : b2 < 256 := hb8 _ (by simp)
  have q3 : b3 < 256 := hb8 _ (by simp)
  have e : ∀ i, i < 4 → mixB [a0, a1, a2, a3] i = mixB [b0, b1, b2, b3] i := fun i hi => by rw [← mixN_get _ hi, ← mixN_get _ hi, h]
  have e0 : (a0 ^^^ (a0 ^^^ a1 ^^^ a2 ^^^ a3)) ^^^ dbl (a0 ^^^ a1) = (b0 ^^^ (b0 ^^^ b1 ^^^ b2 ^^^ b3)) ^^^ dbl (b0 ^^^ b1) := e 0 (by decide)
  have e1 : (a1 ^^^ (a0 ^^^ a1 ^^^ a2 ^^^ a3)) ^^^ dbl (a1 ^^^ a2) = (b1 ^^^ (b0 ^^^ b1 ^^^ b2 ^^^ b3)) ^^^ dbl (b1 ^^^ b2) := e 1 (by decide)
  have e2 : (a2 ^^^ (a0 ^^^ a1 ^^^ a2 ^^^ a3)) ^^^ dbl (a2 ^^^ a3) = (b2 ^^^ (b0 ^^^ b1 ^^^ b2 ^^^ b3)) ^^^ dbl (b2 ^^^ b3) := e 2 (by decide)
  have e3 : (a3 ^^^ (a0 ^^^ a1 ^^^ a2 ^^^ a3)) ^^^ dbl (a3 ^^^ a0) = (b3 ^^^ (b0 ^^^ b1 ^^^ b2 ^^^ b3)) ^^^ dbl (b3 ^^^ b0) := e 3 (by decide)
  have g0 := eq_step e0
  have g1 := eq_step e1
  have g2 := eq_step e2
  have g3 := eq_step e3
  rw [xsum, ← dbl_xor _ (xor8 p0 p1) _ (xor8 q0 q1), xpair a0 a1 b0 b1] at g0
  rw [xsum, ← dbl_xor _ (xor8 p1 p2) _ (xor8 q1 q2), xpair a1 a2 b1 b2] at g1
  rw [xsum, ← dbl_xor _ (xor8 p2 p3) _ (xor8 q2 q3), xpair a2 a3 b2 b3] at g2
  rw [xsum, ← dbl_xor _ (xor8 p3 p0) _ (xor8 q3 q0), xpair a3 a0 b3 b0] at g3
  obtain ⟨z0, z1, z2, z3⟩ := mix_zero (xor8 p0 q0) (xor8 p1 q1) (xor8 p2 q2) (xor8 p3 q3) g0 g1 g2 g3
  rw [eq_of_xor z0, eq_of_xor z1, eq_of_xor z2, eq_of_xor z3]
theorem ext_getD {l m : List Nat} {n : Nat} (hl : l.length = n) (hm : m.length = n) (h : ∀ j, j < n → l.getD j 0 = m.getD j 0) : l = m := by
  refine List.ext_getElem (hl.trans hm.symm) fun j h1 h2 => ?_
  have := h j (by omega)
  rwa [List.getD_eq_getElem?_getD, List.getD_eq_getElem?_getD, List.getElem?_eq_getElem h1, List.getElem?_eq_getElem h2] at this
theorem rnd_inj {key s t : List Nat} {r : Nat} (hs : s.length = 16) (ht : t.length = 16) (hs8 : ∀ x ∈ s, x < 256) (ht8 : ∀ x ∈ t, x < 256) (h : rnd key r s = rnd key r t) : s = t := by
  have hT : ∀ i, i < 4 → rowT r s i = rowT r t i := fun i hi => ext_getD (rowT_len r s hi) (rowT_len r t hi) fun k hk => by
    have e1 := rnd_get key r s hi hk
    have e2 := rnd_get key r t hi hk
    rw [h, e2] at e1
    exact (xor_cancel e1).symm
  have hR : ∀ i, i < 4 → rowR s i = rowR t i := fun i hi => by
    have := hT i hi
    unfold rowT at this
    split at this
    · exact mix_inj (rowR_len s hi) (rowR_len t hi) (rowR_lt s i) (rowR_lt t i) this
    · exact this
  have hS : ∀ i k, i < 4 → k < 4 → rowS s i k = rowS t i k := fun i k hi hk => by
    rw [← subS_get s hi hk, ← subS_get t hi hk, ← rowR_get s hk, ← rowR_get t hk, hR i hi]
  refine ext_getD hs ht fun j hj => ?_
  have := hS ((j / 4 + 4 - j % 4) % 4) (j % 4) (by omega) (by omega)
  unfold rowS at this
  rw [show 4 * (((j / 4 + 4 - j % 4) % 4 + j % 4) % 4) + j % 4 = j from by omega] at this
  exact bxv_inj (getD_lt0 (by decide) _ hs8) (getD_lt0 (by decide) _ ht8) this
theorem turn_inj {key a b : List Nat} (hk : ∀ x ∈ key, x < 256) (ha : a.length = 16) (hb : b.length = 16) (ha8 : ∀ x ∈ a, x < 256) (hb8 : ∀ x ∈ b, x < 256) (h : turnP key a = turnP key b) : a = b := by
  have key' : ∀ r, rnds key a r = rnds key b r → a = b := by
    intro r
    induction r with
    | zero =>
      intro h0
      rw [rnds, rnds] at h0
      refine ext_getD ha hb fun j hj => ?_
      have e1 : (addK key a).getD j 0 = _ := g16_get _ hj
      have e2 : (addK key b).getD j 0 = _ := g16_get _ hj
      rw [h0, e2] at e1
      exact (xor_cancel e1).symm
    | succ r ih =>
      intro h1
      rw [rnds_succ, rnds_succ] at h1
      exact ih (rnd_inj (rnds_len key a r) (rnds_len key b r) (rnds_lt hk ha8 r) (rnds_lt hk hb8 r) h1)
  exact key' 10 h
end Go.Proofs.Ytblnclooobggnaa.A
