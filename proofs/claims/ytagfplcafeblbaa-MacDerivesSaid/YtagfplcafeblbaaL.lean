/-
  Small words over the machine that all other texts of this seat use: a row that is made is known whole; a row that is read, laid open; regions.
-/
import Derived.Test.YtagfplcafeblbaaProg
import Derived.WalkKit
import Derived.KernelRfl
import Derived.Below
import Derived.Outline
import Derived.WalkMore
import Derived.LoopTactic
import Derived.Laws.Rows
import Derived.Deep.LoopGhost
import Derived.Deep.RegionHeld3
import Derived.Deep.RegionWith
import Derived.Deep.DrawnRows
import Derived.Lib.Hide
import Derived.Laws.BitsLemmas
import Derived.WalkSpells
import Derived.IntWalk
import Derived.Test.YtagfplcafeblbaaWWords
namespace Go.Proofs.Ytagfplcafeblbaa.L
open Go.RowKit Go.Proofs.YtagfplcafeblbaaW.PrintWords

theorem stay0 (W : World) : Below W.heap.size W W.drew := (Below.refl _ _).drew
theorem stay1 {W w1 w2 : World} (h : Below W.heap.size W w1) (hb : Below w1.heap.size w1 w2) : Below W.heap.size W w2 :=
  h.trans (hb.mono h.size)

/-- A block that is known whole, as a row of one's own. -/
theorem R_of_blk {w : World} {b B : Nat} {k : IntKind} {e : TypeId} {l : List Int} (h : w.heap[b]? = some (.cells (l.map (Value.int k)).toArray e (0, 0))) (hB : B ≤ b) (hl : l.length ≤ maxLen) :
    (Kd.int k).R e w B (fun _ => True) (.slice (some ⟨b, 0, none⟩) l.length l.length) l :=
  Kd.R_of_own (enc := Value.int k) ⟨by simp [encs], .inr ⟨b, l.length, _, rfl, hB, h, Nat.le_refl _, hl, by simp, by simp [encs, List.take_of_length_le]⟩⟩ (fun _ _ => trivial)

theorem R_ne' {w : World} {k : IntKind} {e t : TypeId} {B g : Nat} {ok : Nat → Prop} {v : Value} {xs : List Int} {cs : Array Value} (h : (Kd.int k).R e w B ok v xs) (hg : w.heap[g]? = some (.cells cs t (0, 0))) (hne : e ≠ t) : some g ≠ v.ownBlock := own_ne (Kd.own_of_R h) hg hne
/-- A newer row stays, where an elder one is written or appended to. -/
theorem R_newer {α : Type} {d : Kd α} {w w2 : World} {e : TypeId} {B0 B1 : Nat} {v v1 : Value} {l : List α} (h : d.R e w B1 (fun _ => True) v1 l) (hv : ∀ k, v.ownBlock = some k → k < B0) (hB : B0 ≤ B1) (hg : w.grownBy w2 v.ownBlock) : d.R e w2 B1 (fun _ => True) v1 l :=
  Kd.R_mono (Kd.R_grown (Kd.R_mono (Kd.R_bound h) (fun _ hk => hk.2.1)) hg (fun k hk he => by have := hv k he.symm; omega)) (fun _ _ => trivial)
/-- A row that is read, laid open. -/
theorem C_open {w : World} {k : IntKind} {A : Option Addr} {l : List Int} (h : (Kd.int k).C w A l.length l) :
    l.length ≤ 9223372036854775807 ∧ (l = [] ∨ ∃ b off, A = some ⟨b, off, none⟩ ∧ b < w.heap.size ∧ ∀ j, j < l.length → w.cell? ⟨b, off + j, none⟩ = some (.int k (l.getD j 0))) := by
  have hr := Kd.reads_of_C (d := (0 : Int)) h
  refine ⟨hr.2.1, ?_⟩
  rcases Nat.eq_zero_or_pos l.length with h0 | h0
  · exact .inl (List.eq_nil_of_length_eq_zero h0)
  · right
    obtain ⟨ad, e, hc⟩ := hr.2.2 h0
    obtain ⟨b, off, spot⟩ := ad
    have hs : spot = none := by
      have := World.cell?_spot (hc 0 h0)
      simpa [Addr.add] using this
    subst hs
    have hc' : ∀ j, j < l.length → w.cell? ⟨b, off + j, none⟩ = some (.int k (l.getD j 0)) := fun j hj => by
      have := hc j hj
      rwa [add_at] at this
    exact ⟨b, off, e, World.block_lt_of_cell? w ⟨b, off + 0, none⟩ (hc' 0 h0), hc'⟩

theorem wraps_u64 (n : Int) (h0 : 0 ≤ n) (h1 : n < 2 ^ 64) : IntKind.u64.wrap n = n := by
  simp [IntKind.wrap, IntKind.bits, IntKind.signed]; omega
theorem wraps_u32 (n : Int) (h0 : 0 ≤ n) (h1 : n < 2 ^ 32) : IntKind.u32.wrap n = n := by
  simp [IntKind.wrap, IntKind.bits, IntKind.signed]; omega
theorem or_comm_ (k : IntKind) (x y : Int) : bits .or k x y = bits .or k y x := by
  simp only [bits]; rw [BitVec.or_comm]
/-- High bits and low bits joined. -/
theorem or8 (i : Nat) {x y : Int} (hx0 : 0 ≤ x) (hx : x % 2 ^ i = 0) (hx1 : x < 256) (hy0 : 0 ≤ y) (hy : y < 2 ^ i) (hy1 : y < 256) : bits .or .u8 y x = x + y := by
  rw [or_comm_]; exact bits_join .u8 8 (by decide) wraps_u8 i x y hx0 hx (by omega) hy0 hy (by omega)
theorem or64 (i : Nat) {x y : Int} (hx0 : 0 ≤ x) (hx : x % 2 ^ i = 0) (hx1 : x < 18446744073709551616) (hy0 : 0 ≤ y) (hy : y < 2 ^ i) (hy1 : y < 18446744073709551616) : bits .or .u64 x y = x + y :=
  bits_join .u64 64 (by decide) wraps_u64 i x y hx0 hx (by omega) hy0 hy (by omega)

section
variable {P : Program} {ops : Array Oper} {rest : List Oper} {o : Oper} {a : Act} {Q : Exit → Act → World → Prop}
/-- append(s, y): one number behind a row of one's own. -/
theorem app1 {w0 W : World} (k : IntKind) (B : Nat) (s x : Operand) (t e : TypeId) (bytes : Nat) (hgd : o.guard = none)
    (ho : o.op = .call { callee := .builtin .append, args := #[s, x], argTypes := #[t, t] }) (ht : P.underlying t = some (.slice e))
    (hinfo : (P.info? e).map (fun i => (i.zero, i.size, i.bytes)) = some (some (.int k 0), 1, bytes)) (hb0 : 0 < bytes)
    (v : Value) (xs : List Int) (y : Int) (hs : a.eval s = v) (hx : a.eval x = .slice (some ⟨W.heap.size, 0, none⟩) 1 1)
    (HO : (Kd.int k).R e W B (fun _ => True) v xs) (HB : Below B w0 W) (hB : B ≤ W.heap.size) (hl : (xs.length + 1) * bytes ≤ 140737488355328)
    (h : ∀ v1 w1, (Kd.int k).R e w1 B (fun _ => True) v1 (xs ++ [y]) → Below B w0 w1 → W.grownBy w1 v.ownBlock → wpList P ops Q rest (a.put o.dst v1) w1) :
    wpList P ops Q (o :: rest) a (W.alloc (.cells #[.int k y] e)) :=
  Kd.R_append (Kd.int k) B hgd s x t e (.int k 0) bytes ho ht hinfo rfl (by show 0 < 1; decide) hb0 v xs y [.int k y] (fun _ => True) (fun _ => False) hs hx rfl (fun _ h => h.elim) (fun _ _ => trivial) HO HB hB hl
    (fun v1 w1 h1 h2 h3 _ => h v1 w1 h1 h2 h3)
/-- append(s, ys...): a row of numbers behind a row of one's own. -/
theorem appn {w0 W : World} (k : IntKind) (B : Nat) (s x : Operand) (t e : TypeId) (bytes : Nat) (hgd : o.guard = none)
    (ho : o.op = .call { callee := .builtin .append, args := #[s, x], argTypes := #[t, t] }) (ht : P.underlying t = some (.slice e))
    (hinfo : (P.info? e).map (fun i => (i.zero, i.size, i.bytes)) = some (some (.int k 0), 1, bytes)) (hb0 : 0 < bytes)
    (v : Value) (xs ys : List Int) (A : Option Addr) (m c : Nat) (hs : a.eval s = v) (hx : a.eval x = .slice A m c)
    (HO : (Kd.int k).R e W B (fun _ => True) v xs) (HR : (Kd.int k).C W A m ys) (HB : Below B w0 W) (hB : B ≤ W.heap.size) (hl : (xs.length + m) * bytes ≤ 140737488355328)
    (h : ∀ v1 w1, (Kd.int k).R e w1 B (fun _ => True) v1 (xs ++ ys) → Below B w0 w1 → W.grownBy w1 v.ownBlock → wpList P ops Q rest (a.put o.dst v1) w1) :
    wpList P ops Q (o :: rest) a W :=
  Kd.R_append_row (Value.int k) 0 B hgd s x t e (.int k 0) bytes ho ht hinfo rfl hb0 v xs ys A m c (fun _ => True) hs hx (fun _ _ => trivial) HO HR HB hB hl (fun v1 w1 h1 h2 h3 _ => h v1 w1 h1 h2 h3)
end

section
variable {P : Program} {ops : Array Oper} {rest : List Oper} {o : Oper} {a : Act} {Q : Exit → Act → World → Prop} {Kc : Act → World → Prop} {α : Type}
/-- append(s, y), y of whatever kind; its rows are newer than the row appended to. -/
theorem appk (d : Kd α) {w0 W : World} (B B1 : Nat) (s x : Operand) (t e : TypeId) (z : Value) (bytes : Nat) (hgd : o.guard = none)
    (ho : o.op = .call { callee := .builtin .append, args := #[s, x], argTypes := #[t, t] }) (ht : P.underlying t = some (.slice e))
    (hinfo : (P.info? e).map (fun i => (i.zero, i.size, i.bytes)) = some (some z, d.sz, bytes)) (hz : z.cells.size = d.sz) (hs0 : 0 < d.sz) (hb0 : 0 < bytes)
    (v : Value) (xs : List α) (p : α) (cs : List Value) (hs : a.eval s = v) (hx : a.eval x = .slice (some ⟨W.heap.size, 0, none⟩) 1 1)
    (hp : d.M W B (fun k => B1 ≤ k) p cs) (hv : ∀ k, v.ownBlock = some k → k < B1)
    (HO : d.R e W B (fun _ => True) v xs) (HB : Below B w0 W) (hB : B ≤ W.heap.size) (hl : (xs.length + 1) * bytes ≤ 140737488355328)
    (h : ∀ v1 w1, d.R e w1 B (fun _ => True) v1 (xs ++ [p]) → Below B w0 w1 → W.grownBy w1 v.ownBlock → wpList P ops Q rest (a.put o.dst v1) w1) :
    wpList P ops Q (o :: rest) a (W.alloc (.cells cs.toArray e)) :=
  Kd.R_append d B hgd s x t e z bytes ho ht hinfo hz hs0 hb0 v xs p cs (fun _ => True) (fun k => B1 ≤ k) hs hx hp (fun k hk => ⟨trivial, fun he => by have := hv k he.symm; omega⟩) (fun _ _ => trivial) HO HB hB hl
    (fun v1 w1 h1 h2 h3 _ => h v1 w1 h1 h2 h3)
/-- The same, and more of the new world and of the new row's block. -/
theorem appkb (d : Kd α) {w0 W : World} (B B1 : Nat) (s x : Operand) (t e : TypeId) (z : Value) (bytes : Nat) (hgd : o.guard = none)
    (ho : o.op = .call { callee := .builtin .append, args := #[s, x], argTypes := #[t, t] }) (ht : P.underlying t = some (.slice e))
    (hinfo : (P.info? e).map (fun i => (i.zero, i.size, i.bytes)) = some (some z, d.sz, bytes)) (hz : z.cells.size = d.sz) (hs0 : 0 < d.sz) (hb0 : 0 < bytes)
    (v : Value) (xs : List α) (p : α) (cs : List Value) (hs : a.eval s = v) (hx : a.eval x = .slice (some ⟨W.heap.size, 0, none⟩) 1 1)
    (hp : d.M W B (fun k => B1 ≤ k) p cs) (hv : ∀ k, v.ownBlock = some k → k < B1)
    (HO : d.R e W B (fun _ => True) v xs) (HB : Below B w0 W) (hB : B ≤ W.heap.size) (hl : (xs.length + 1) * bytes ≤ 140737488355328)
    (h : ∀ v1 w1, d.R e w1 B (fun _ => True) v1 (xs ++ [p]) → Below B w0 w1 → (W.alloc (.cells cs.toArray e)).grownBy w1 v.ownBlock → (∀ k, v1.ownBlock = some k → v.ownBlock = some k ∨ W.heap.size ≤ k) → wpList P ops Q rest (a.put o.dst v1) w1) :
    wpList P ops Q (o :: rest) a (W.alloc (.cells cs.toArray e)) := by
  obtain ⟨i0, hi, hzz⟩ := Option.map_eq_some_iff.1 hinfo
  simp only [Prod.mk.injEq] at hzz
  obtain ⟨hz0, hz1, hz2⟩ := hzz
  have hlen : xs.length + 1 ≤ 140737488355328 := Nat.le_trans (Nat.le_mul_of_pos_right _ hb0) hl
  obtain ⟨h0, inner, hown, hr⟩ := HO
  have hck := d.K_len (d.K_of_M hp)
  refine wpList_append_own_at (W.alloc (.cells cs.toArray e)) hgd s x t ho B e i0 z d.sz bytes ht hi hz0 hz1 hz2 hz hs0 v xs.length inner hs (hown.alloc _) ⟨W.heap.size, 0, none⟩ 1 1 cs hx (by rw [hck]; simp)
    (by simpa using World.news_of_block (cs := cs.toArray) (t := e) (fr := (0, 0)) (heap_alloc_new W (.cells cs.toArray e))) (d.K_one (d.K_of_M hp)) (by simp only [maxLen]; omega) hl (by simp; omega) ?_
  intro v1 w1 hown1 hg _ hat
  have hg' := World.grownBy.trans (World.grownBy_alloc W _ _) hg
  have hat' : v1.ownBlock = v.ownBlock ∨ ∃ b, v1.ownBlock = some b ∧ W.heap.size ≤ b := by
    rcases hat with hat | hat
    · exact .inl hat
    · exact .inr ⟨_, hat, by simp⟩
  refine h v1 w1 (Kd.R_appended h0 hr hp (fun k hk => ⟨trivial, fun he => by have := hv k he.symm; omega⟩) (fun _ _ => trivial) hown1 hg' hat') ((HB.alloc hB _).grown hg (by simp; omega) (own_base hown)) hg (fun k hk => ?_)
  rcases hat' with e1 | ⟨b, e1, hb⟩
  · exact .inl (e1 ▸ hk)
  · rw [e1] at hk
    injection hk with hk
    exact .inr (by omega)
theorem appk_step (d : Kd α) {w0 W : World} (B B1 : Nat) (s x : Operand) (t e : TypeId) (z : Value) (bytes : Nat) {E : Prop} (hgd : o.guard = none)
    (ho : o.op = .call { callee := .builtin .append, args := #[s, x], argTypes := #[t, t] }) (ht : P.underlying t = some (.slice e))
    (hinfo : (P.info? e).map (fun i => (i.zero, i.size, i.bytes)) = some (some z, d.sz, bytes)) (hz : z.cells.size = d.sz) (hs0 : 0 < d.sz) (hb0 : 0 < bytes)
    (v : Value) (xs : List α) (p : α) (cs : List Value) (hs : a.eval s = v) (hx : a.eval x = .slice (some ⟨W.heap.size, 0, none⟩) 1 1)
    (hp : d.M W B (fun k => B1 ≤ k) p cs) (hv : ∀ k, v.ownBlock = some k → k < B1)
    (HO : d.R e W B (fun _ => True) v xs) (HB : Below B w0 W) (hB : B ≤ W.heap.size) (hl : (xs.length + 1) * bytes ≤ 140737488355328)
    (h : ∀ v1 w1, d.R e w1 B (fun _ => True) v1 (xs ++ [p]) → Below B w0 w1 → W.grownBy w1 v.ownBlock → Kc (a.put o.dst v1) w1) :
    if Region.wanted o (yielded ops a.tmps) = true then Oper.wp P o a (W.alloc (.cells cs.toArray e)) Kc Q else E := by
  have hw : Region.wanted o (yielded ops a.tmps) = true := by simp [Region.wanted, hgd]
  have := Kd.R_append_step (Q := Q) d B hw s x t e z bytes ho ht hinfo hz hs0 hb0 v xs p cs (fun _ => True) (fun k => B1 ≤ k) hs hx hp (fun k hk => ⟨trivial, fun he => by have := hv k he.symm; omega⟩) (fun _ _ => trivial) HO HB hB hl
    (fun v1 w1 h1 h2 h3 _ => h v1 w1 h1 h2 h3)
  rw [if_pos hw] at this ⊢
  exact this
end

/-- s[lo:hi], both told. -/
theorem cutm {P : Program} (k : IntKind) (t e : TypeId) {i : TypeInfo} (ht : P.underlying t = some (.slice e)) (hi : P.info? e = some i) (hsz : i.size = 1) (A : Option Addr) (n c : Nat) (lo up : Int) (n1 : Nat) (h0 : 0 ≤ lo) (h1 : up - lo = n1) (h2 : up ≤ n) (hc : n ≤ c) :
    ∃ A' c', (∀ W : World, (Instr.slice t (.slice A n c) (some (.int .i64 lo)) (some (.int .i64 up)) none).run P W = .ok (.slice A' n1 c') W) ∧ n1 ≤ c' ∧
      ∀ (W : World) (l : List Int), l.length = n → (Kd.int k).C W A l.length l → (Kd.int k).C W A' n1 ((l.take up.toNat).drop lo.toNat) ∧ ((l.take up.toNat).drop lo.toNat).length = n1 := by
  refine ⟨_, _, fun W => (cut_mid t e .i64 .i64 ht hi 1 hsz A n c lo up h0 (by omega) h2 hc W).trans (by rw [show up.toNat - lo.toNat = n1 from by omega]), by omega, ?_⟩
  intro W l hl hC
  have h := Kd.C_mid (lo := lo.toNat) (hi := up.toNat) hC (by omega) (by omega) (c := c) (by omega)
  have hlen : ((l.take up.toNat).drop lo.toNat).length = n1 := by simp; omega
  rw [hlen] at h
  exact ⟨h, hlen⟩
theorem R_up {α : Type} {d : Kd α} {e B B1 : Nat} {w : World} {v : Value} {l : List α} (h : d.R e w B1 (fun _ => True) v l) (hB : B ≤ B1) : d.R e w B (fun k => B1 ≤ k) v l :=
  Kd.R_lower (Kd.R_mono (Kd.R_bound h) (fun _ hk => hk.2.1)) hB
theorem info_of {P : Program} {e : TypeId} {z : Value} {s b : Nat} (h : (P.info? e).map (fun i => (i.zero, i.size, i.bytes)) = some (some z, s, b)) : ∃ i, P.info? e = some i ∧ i.size = s := by
  obtain ⟨i, hi, hz⟩ := Option.map_eq_some_iff.1 h
  exact ⟨i, hi, by simp only [Prod.mk.injEq] at hz; exact hz.2.1⟩

/-- An empty literal of a slice type, as a row of one's own. -/
theorem R_empty {k : IntKind} {e : TypeId} {W : World} {B : Nat} (hB : B ≤ W.heap.size) (e' : TypeId) (he : e' = e) : (Kd.int k).R e (W.alloc (.cells #[] e')) B (fun _ => True) (.slice (some ⟨W.heap.size, 0, none⟩) 0 0) [] := by
  subst he
  exact R_of_blk (b := W.heap.size) (l := []) (heap_alloc_new W _) hB (by decide)

end Go.Proofs.Ytagfplcafeblbaa.L
