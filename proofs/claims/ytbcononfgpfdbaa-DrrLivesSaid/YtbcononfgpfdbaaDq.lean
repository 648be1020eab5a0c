/-
  drr: what holds of the circle while the law DrrLives goes on; the two rings side by side in memory.
-/
import Derived.Test.YtbcononfgpfdbaaDo
import Derived.Test.YtbcononfgpfdbaaQs
namespace Go.Proofs.Ytbcononfgpfdbaa.D
open Go.RowKit Go.Proofs.Ytbcononfgpfdbaa.L Go.Proofs.YtbcononfgpfdbaaW.PrintWords

def bnd (C : Int) (Z : List Mem) : Prop := ∀ m ∈ Z, 0 ≤ m.2 ∧ m.2 ≤ C
theorem bnd_beg {C q : Int} {Z : List Mem} (h : bnd C Z) (hq : 0 ≤ q ∧ q ≤ 65536) : bnd (C + 65536) (beg q Z) := fun m hm => by
  cases Z with
  | nil => cases hm
  | cons a r =>
    rcases List.mem_cons.1 hm with rfl | hm
    · have := h a (by simp); show 0 ≤ a.2 + q ∧ a.2 + q ≤ _; omega
    · have := h m (by simp [hm]); omega
theorem bnd_bump {C q : Int} {Z : List Mem} {k : Nat} (h : bnd C Z) (hq : 0 ≤ q ∧ q ≤ 65536) : bnd (C + 65536) (bump q k Z) := fun m hm => by
  rcases List.mem_append.1 hm with hm | hm
  · have := h m (List.mem_of_mem_take hm); omega
  · exact bnd_beg (Z := Z.drop k) (fun m hm => h m (List.mem_of_mem_drop hm)) hq m hm
/-- the circle, not too many, their credits -/
structure LI (Z : List Mem) (n : Nat) (C : Int) : Prop where
  cir : Cir Z n
  len : Z.length ≤ 16
  bd : bnd C Z
theorem LI.small {Z : List Mem} {n : Nat} {C : Int} (h : LI Z n C) (hC : C ≤ 1000000000000) : small Z := fun m hm => by have := h.bd m hm; omega
theorem LI.small_rot {Z : List Mem} {n : Nat} {C : Int} (h : LI Z n C) (hC : C ≤ 1000000000000) : D.small (rot n Z) := fun m hm => h.small hC m (rot_mem.1 hm)
theorem LI.more {Z : List Mem} {n : Nat} {C : Int} (h : LI Z n C) : LI Z n (C + 65536) := ⟨h.cir, h.len, fun m hm => by have := h.bd m hm; omega⟩
theorem LI.add {q : Int} {Z : List Mem} {n : Nat} {C : Int} (h : LI Z n C) (hq : 1 ≤ q ∧ q ≤ 65536) (hC : 0 ≤ C) (id : Int) : LI (addX q Z n id).2.1 (addX q Z n id).2.2 (C + 65536) := by
  refine ⟨(add_rel (q := q) h.cir id).2.2, ?_, ?_⟩
  · unfold addX
    split
    · exact h.len
    split
    · exact h.len
    split
    · show 1 ≤ 16; omega
    · simp; omega
  · unfold addX
    split
    · exact h.more.bd
    split
    · exact h.more.bd
    split
    · intro m hm
      obtain rfl : m = (id, q) := by simpa using hm
      show 0 ≤ q ∧ q ≤ C + 65536
      omega
    · intro m hm
      rcases List.mem_append.1 hm with hm | hm
      · exact h.more.bd m (List.mem_of_mem_take hm)
      · rcases List.mem_cons.1 hm with rfl | hm
        · show 0 ≤ (0 : Int) ∧ (0 : Int) ≤ C + 65536; omega
        · exact h.more.bd m (List.mem_of_mem_drop hm)
theorem LI.rem {q : Int} {Z : List Mem} {n : Nat} {C : Int} (h : LI Z n C) (hq : 1 ≤ q ∧ q ≤ 65536) (id : Int) : LI (remX q Z n id).2.1 (remX q Z n id).2.2 (C + 65536) := by
  have hb : bnd C (Z.take (fnd id Z) ++ Z.drop (fnd id Z + 1)) := fun m hm => by
    rcases List.mem_append.1 hm with hm | hm
    · exact h.bd m (List.mem_of_mem_take hm)
    · exact h.bd m (List.mem_of_mem_drop hm)
  have hl : (Z.take (fnd id Z) ++ Z.drop (fnd id Z + 1)).length ≤ 16 := by have := h.len; simp; omega
  refine ⟨(rem_rel (q := q) h.cir id).2.2, ?_, ?_⟩
  · unfold remX
    split
    · dsimp only
      split
      · rw [bump_length]; exact hl
      · exact hl
    · exact h.len
  · unfold remX
    split
    · dsimp only
      split
      · exact bnd_bump hb (by omega)
      · exact fun m hm => by have := hb m hm; omega
    · exact h.more.bd
theorem LI.spend {q : Int} {Z : List Mem} {n : Nat} {C : Int} (h : LI Z n C) (hq : 1 ≤ q ∧ q ≤ 65536) (cost : Int) : LI (spendX q Z n cost).2.2.1 (spendX q Z n cost).2.2.2 (C + 65536) := by
  refine ⟨(spend_rel (q := q) h.cir cost).2.2.2, ?_, ?_⟩
  · unfold spendX
    split
    · exact h.len
    split
    · exact h.len
    split
    · show (bump (-cost) n Z).length ≤ 16
      rw [bump_length]; exact h.len
    · show (bump q ((n + 1) % Z.length) Z).length ≤ 16
      rw [bump_length]; exact h.len
  · unfold spendX
    split
    · exact h.more.bd
    split
    · exact h.more.bd
    split
    · rename_i h1 h2 h3
      intro m hm
      have hm : m ∈ bump (-cost) n Z := hm
      rcases List.mem_append.1 hm with hm | hm
      · exact h.more.bd m (List.mem_of_mem_take hm)
      · have hn : n < Z.length := by
          rcases h.cir.at_ with h4 | ⟨h4, _⟩
          · exact h4
          · subst h4; simp at h2
        rw [List.drop_eq_getElem_cons hn] at hm
        rcases List.mem_cons.1 hm with rfl | hm
        · have hb := h.bd _ (getD_mem hn)
          rw [List.getD_eq_getElem?_getD, List.getElem?_eq_getElem hn] at hb h3
          simp only [Option.getD_some] at hb h3
          show 0 ≤ Z[n].2 + -cost ∧ Z[n].2 + -cost ≤ C + 65536
          omega
        · have := h.bd m (List.mem_of_mem_drop hm); omega
    · exact bnd_bump h.bd (by omega)

/-- the document's ring stays behind a call of the ring -/
theorem XR.ring {b B n : Nat} {q : Int} {Z : List Mem} {w w1 : World} (h : XR b q Z n B w) (hf : FR B w w1) : XR b q Z n B w1 := by
  obtain ⟨v1, v2, h1, h2, h3, h4⟩ := h.ex
  exact ⟨v1, v2, (hf.typ b _ _ _ h1 (by decide) (by decide)).trans h1, h2, R_ring h3 hf (by decide) (by decide), R_ring h4 hf (by decide) (by decide)⟩
/-- the ring stays behind a call of the document's -/
theorem RG.ref {b B : Nat} {q : Int} {L : List Mem} {w w1 : World} (h : RG b q L B w) (hf : FX B w w1) : RG b q L B w1 := by
  obtain ⟨v, h1, h2, h3⟩ := h
  refine ⟨v, (hf.typ b _ _ _ h1 (by decide) (by decide)).trans h1, h2, ?_⟩
  refine Kd.R_mono (Kd.R_move (Kd.R_bound h3) (fun g hg => ?_)) (fun _ _ => trivial)
  obtain ⟨_, _, _, q, hq, cells, hc⟩ := hg
  simp [show kM.E = [] from rfl] at hq
  subst hq
  exact hf.typ g _ _ _ hc (by decide) (by decide)
/-- blocks that calls of rings may write -/
def rwr (W : World) (k : Nat) : Prop := ¬ ∃ cs t fr, W.heap[k]? = some (Obj.cells cs t fr) ∧ t ≠ tR ∧ t ≠ tM ∧ t ≠ tX ∧ t ≠ tI
theorem gr_ring {W W1 w : World} {B C : Nat} (h0 : Qs.Gr B (rwr W) W W1) (hf : FR C W1 w) : Qs.Gr B (rwr W) W1 w :=
  ⟨hf.os, hf.tape, hf.output, hf.size, fun k hk hr => by
    obtain ⟨cs, t, fr, h1, h2, h3, _⟩ := Classical.not_not.1 hr
    exact hf.typ k cs t fr ((h0.block k hk hr).trans h1) h2 h3⟩
theorem gr_ref {W W1 w : World} {B C : Nat} (h0 : Qs.Gr B (rwr W) W W1) (hf : FX C W1 w) : Qs.Gr B (rwr W) W1 w :=
  ⟨hf.os, hf.tape, hf.output, hf.size, fun k hk hr => by
    obtain ⟨cs, t, fr, h1, _, _, h2, h3⟩ := Classical.not_not.1 hr
    exact hf.typ k cs t fr ((h0.block k hk hr).trans h1) h2 h3⟩
theorem gr_trans {W W1 w : World} {B : Nat} {r : Nat → Prop} (h0 : Qs.Gr B r W W1) (h1 : Qs.Gr B r W1 w) : Qs.Gr B r W w :=
  ⟨h1.os.trans h0.os, h1.tape.trans h0.tape, h1.output.trans h0.output, Nat.le_trans h0.size h1.size, fun k hk hr => (h1.block k hk hr).trans (h0.block k hk hr)⟩
/-- an operation, in a block of its own -/
abbrev tO : TypeId := 44
def OB (g : Nat) (kd id cost : Int) (w : World) : Prop := w.heap[g]? = some (.cells #[.int .i64 kd, .int .u64 id, .int .i64 cost] tO (0, 0))
theorem OB.cells {g : Nat} {kd id cost : Int} {w : World} (h : OB g kd id cost w) : w.cell? ⟨g, 0, none⟩ = some (.int .i64 kd) ∧ w.cell? ⟨g, 1, none⟩ = some (.int .u64 id) ∧ w.cell? ⟨g, 2, none⟩ = some (.int .i64 cost) :=
  ⟨by rw [blk_cell h]; rfl, by rw [blk_cell h]; rfl, by rw [blk_cell h]; rfl⟩
theorem OB.ring {g B : Nat} {kd id cost : Int} {w w1 : World} (h : OB g kd id cost w) (hf : FR B w w1) : OB g kd id cost w1 := (hf.typ g _ _ _ h (by decide) (by decide)).trans h
theorem OB.ref {g B : Nat} {kd id cost : Int} {w w1 : World} (h : OB g kd id cost w) (hf : FX B w w1) : OB g kd id cost w1 := (hf.typ g _ _ _ h (by decide) (by decide)).trans h
theorem OB.below {g : Nat} {kd id cost : Int} {w w1 : World} (h : OB g kd id cost w) (hb : Below w.heap.size w w1) : OB g kd id cost w1 := blk_below h hb
theorem OB.gw {g B : Nat} {kd id cost : Int} {W : World} (h : OB g kd id cost W) (hB : g < B) (m : Qs.GW W B (rwr W)) : OB g kd id cost m.w :=
  (m.h.block g hB (fun hr => hr ⟨_, _, _, h, by decide, by decide, by decide, by decide⟩)).trans h
abbrev OpD := Int × Int × Int
def kOp : Kd OpD := Kd.pair (Kd.int .i64) (Kd.pair (Kd.int .u64) (Kd.int .i64))
def zOp : OpD := (0, 0, 0)
theorem O_open {w : World} {A : Option Addr} {l : List OpD} (h : kOp.C w A l.length l) :
    l.length ≤ 9223372036854775807 ∧ (l = [] ∨ ∃ b off, A = some ⟨b, off, none⟩ ∧ b < w.heap.size ∧ ∀ j, j < l.length → w.cell? ⟨b, off + j * 3, none⟩ = some (.int .i64 (l.getD j zOp).1) ∧ w.cell? ⟨b, off + j * 3 + 1, none⟩ = some (.int .u64 (l.getD j zOp).2.1) ∧
      w.cell? ⟨b, off + j * 3 + 2, none⟩ = some (.int .i64 (l.getD j zOp).2.2)) := by
  refine ⟨h.2.1, ?_⟩
  rcases Nat.eq_zero_or_pos l.length with h0 | h0
  · exact .inl (List.eq_nil_of_length_eq_zero h0)
  · right
    have key : ∀ j, j < l.length → ∃ ad, A = some ad ∧ w.cell? (ad.add (j * 3 + 0)) = some (.int .i64 (l.getD j zOp).1) ∧ w.cell? (ad.add (j * 3 + 1)) = some (.int .u64 (l.getD j zOp).2.1) ∧ w.cell? (ad.add (j * 3 + 2)) = some (.int .i64 (l.getD j zOp).2.2) := by
      intro j hj
      obtain ⟨ad, c, e, _, ⟨c0, c1, rfl, h1, c2, c3, rfl, h2, h3⟩, hc⟩ := Kd.C_get h zOp j (by omega) (by omega)
      rw [show c0 = [Value.int .i64 (l.getD (j : Int).toNat zOp).1] from h1, show c2 = [Value.int .u64 (l.getD (j : Int).toNat zOp).2.1] from h2, show c3 = [Value.int .i64 (l.getD (j : Int).toNat zOp).2.2] from h3] at hc
      simp only [Int.toNat_natCast] at hc
      exact ⟨ad, e, hc 0 _ rfl, hc 1 _ rfl, hc 2 _ rfl⟩
    obtain ⟨ad, e, hc, _⟩ := key 0 h0
    obtain ⟨b, off, spot⟩ := ad
    have hs : spot = none := by
      have := World.cell?_spot hc
      simpa [Addr.add] using this
    subst hs
    refine ⟨b, off, e, ?_, ?_⟩
    · have := World.block_lt_of_cell? w _ hc
      rwa [add_at] at this
    · intro j hj
      obtain ⟨ad, e', hc, hc1, hc2⟩ := key j hj
      rw [e] at e'
      injection e' with e'
      subst e'
      rw [add_at] at hc hc1 hc2
      exact ⟨hc, hc1, hc2⟩
end Go.Proofs.Ytbcononfgpfdbaa.D
