/-
  drr: a ring in memory; what its calls leave alone.
-/
import Derived.Test.YtbcononfgpfdbaaQ
import Derived.Test.YtbcononfgpfdbaaDp
namespace Go.Proofs.Ytbcononfgpfdbaa.D
open Go.RowKit Go.Proofs.Ytbcononfgpfdbaa.L Go.Proofs.YtbcononfgpfdbaaW.PrintWords

def kM : Kd Mem := Kd.pair (Kd.int .u64) (Kd.int .i64)
abbrev tM : TypeId := 102
abbrev tR : TypeId := 49
theorem info_M : (Try.prog.info? tM).map (fun i => (i.zero, i.size, i.bytes)) = some (some (.agg #[.int .u64 0, .int .i64 0]), 2, 16) := by kernel_rfl
theorem M_cells {w : World} {B : Nat} {ok : Nat → Prop} {m : Mem} {cs : List Value} : kM.M w B ok m cs ↔ cs = [.int .u64 m.1, .int .i64 m.2] := by
  constructor
  · rintro ⟨c0, c1, rfl, h0, h1⟩
    rw [show c0 = [Value.int .u64 m.1] from h0, show c1 = [Value.int .i64 m.2] from h1]
    rfl
  · rintro rfl
    exact ⟨[_], [_], rfl, rfl, rfl⟩
theorem K_cells {w : World} {m : Mem} {cs : List Value} : kM.K w m cs ↔ cs = [.int .u64 m.1, .int .i64 m.2] := by
  constructor
  · rintro ⟨c0, c1, rfl, h0, h1⟩
    rw [show c0 = [Value.int .u64 m.1] from h0, show c1 = [Value.int .i64 m.2] from h1]
    rfl
  · rintro rfl
    exact ⟨[_], [_], rfl, rfl, rfl⟩
theorem M_open {w : World} {A : Option Addr} {l : List Mem} (h : kM.C w A l.length l) :
    l.length ≤ 9223372036854775807 ∧ (l = [] ∨ ∃ b off, A = some ⟨b, off, none⟩ ∧ b < w.heap.size ∧ ∀ j, j < l.length → w.cell? ⟨b, off + j * 2, none⟩ = some (.int .u64 (l.getD j zM).1) ∧ w.cell? ⟨b, off + j * 2 + 1, none⟩ = some (.int .i64 (l.getD j zM).2)) := by
  refine ⟨h.2.1, ?_⟩
  rcases Nat.eq_zero_or_pos l.length with h0 | h0
  · exact .inl (List.eq_nil_of_length_eq_zero h0)
  · right
    have key : ∀ j, j < l.length → ∃ ad, A = some ad ∧ w.cell? (ad.add (j * 2 + 0)) = some (.int .u64 (l.getD j zM).1) ∧ w.cell? (ad.add (j * 2 + 1)) = some (.int .i64 (l.getD j zM).2) := by
      intro j hj
      obtain ⟨ad, c, e, _, hk, hc⟩ := Kd.C_get h zM j (by omega) (by omega)
      have hk := K_cells.1 hk
      subst hk
      simp only [Int.toNat_natCast] at hc
      exact ⟨ad, e, hc 0 _ rfl, hc 1 _ rfl⟩
    obtain ⟨ad, e, hc, _⟩ := key 0 h0
    obtain ⟨b, off, spot⟩ := ad
    have hs : spot = none := by
      have := World.cell?_spot hc
      simpa [Addr.add] using this
    subst hs
    refine ⟨b, off, e, ?_, ?_⟩
    · have := World.block_lt_of_cell? w _ hc
      rwa [add_at] at this
    · intro j hj
      obtain ⟨ad, e', hc, hc1⟩ := key j hj
      rw [e] at e'
      injection e' with e'
      subst e'
      rw [add_at] at hc hc1
      exact ⟨hc, hc1⟩
/-- a store into the first one's credit -/
theorem R_head {w : World} {B : Nat} {ok : Nat → Prop} {v : Value} {m : Mem} {r : List Mem} (h : kM.R tM w B ok v (m :: r)) :
    ∃ g c cs, v = .slice (some ⟨g, 0, none⟩) (r.length + 1) c ∧ B ≤ g ∧ w.heap[g]? = some (.cells cs tM (0, 0)) ∧ w.cell? ⟨g, 0, none⟩ = some (.int .u64 m.1) ∧ w.cell? ⟨g, 1, none⟩ = some (.int .i64 m.2) ∧
      ∀ x, kM.R tM (w.setCell ⟨g, 1, none⟩ (.int .i64 x)) B ok v ((m.1, x) :: r) := by
  obtain ⟨h0, inner, ⟨hlen, hown⟩, hrl, hrp⟩ := h
  rcases hown with ⟨_, hn⟩ | ⟨g, cap, cur, hv, hB, hb, hc, hm, hs, ht⟩
  · simp at hn
  have hn : (m :: r).length = r.length + 1 := rfl
  have h2 : kM.sz = 2 := rfl
  rw [hn] at hlen hc ht hrl
  rw [h2] at hlen
  cases inner with
  | nil => simp at hlen
  | cons a inner =>
  cases inner with
  | nil => simp at hlen; omega
  | cons b rest =>
  have h1 : kM.M w B (fun k => ok k ∧ some k ≠ v.ownBlock) m [a, b] := by
    have h3 := hrp 0 m rfl
    rwa [Nat.zero_mul, List.drop_zero, h2] at h3
  have h1 := M_cells.1 h1
  injection h1 with ha h1
  injection h1 with hb1 _
  subst ha hb1
  have hcl : cur.toList = .int .u64 m.1 :: .int .i64 m.2 :: (cur.toList.drop 2) := by
    have e1 : cur.toList.take 2 = (cur.toList.take ((r.length + 1) * kM.sz)).take 2 := by
      rw [List.take_take]
      congr 1
      show 2 = min 2 ((r.length + 1) * 2)
      omega
    rw [ht] at e1
    conv => lhs; rw [← List.take_append_drop 2 cur.toList, e1]
    rfl
  have hsz : 2 ≤ cur.size := by
    have := congrArg List.length hcl
    simp at this
    omega
  have c0 : cur[0]? = some (.int .u64 m.1) := by rw [← Array.getElem?_toList, hcl]; rfl
  have c1 : cur[1]? = some (.int .i64 m.2) := by rw [← Array.getElem?_toList, hcl]; rfl
  refine ⟨g, cap, cur, hv, hB, hb, by rw [blk_cell hb]; exact c0, by rw [blk_cell hb]; exact c1, fun x => ⟨h0, .int .u64 m.1 :: .int .i64 x :: rest, ⟨?_, .inr ⟨g, cap, cur.setIfInBounds 1 (.int .i64 x), hv, hB, blk_set hb 1 _, hc, hm, by simpa using hs, ?_⟩⟩, ?_, fun j p hj => ?_⟩⟩
  · rw [h2]
    simpa using hlen
  · have e2 : (cur.setIfInBounds 1 (Value.int .i64 x)).toList = .int .u64 m.1 :: .int .i64 x :: (cur.toList.drop 2) := by
      rw [Array.toList_setIfInBounds, hcl]
      rfl
    rw [hcl] at ht
    rw [e2]
    have e3 : (((m.1, x) :: r : List Mem).length) * kM.sz = r.length * 2 + 1 + 1 := by
      show (r.length + 1) * 2 = _
      omega
    have e4 : (r.length + 1) * kM.sz = r.length * 2 + 1 + 1 := by
      show (r.length + 1) * 2 = _
      omega
    rw [e3]
    rw [e4] at ht
    simp only [List.take_succ_cons, List.cons.injEq, true_and] at ht ⊢
    exact ht
  · simpa using hrl
  · cases j with
    | zero =>
      have : (m.1, x) = p := by simpa using hj
      subst this
      exact M_cells.2 rfl
    | succ j =>
      have h2 := hrp (j + 1) p (by simpa using hj)
      have e5 : (j + 1) * kM.sz = j * 2 + 1 + 1 := by
        show (j + 1) * 2 = _
        omega
      rw [e5] at h2 ⊢
      simp only [List.drop_succ_cons] at h2 ⊢
      exact M_cells.2 (M_cells.1 h2)

/-- what a ring's calls leave alone -/
structure FR (B : Nat) (w w' : World) : Prop where
  os : w'.os = w.os
  tape : w'.tape = w.tape
  output : w'.output = w.output
  size : w.heap.size ≤ w'.heap.size
  low : ∀ k, k < B → w'.heap[k]? = w.heap[k]?
  typ : ∀ (k : Nat) (cs : Array Value) (t : TypeId) (fr : Nat × Nat), w.heap[k]? = some (Obj.cells cs t fr) → t ≠ tR → t ≠ tM → w'.heap[k]? = w.heap[k]?
theorem FR.refl (B : Nat) (w : World) : FR B w w := ⟨rfl, rfl, rfl, Nat.le_refl _, fun _ _ => rfl, fun _ _ _ _ _ _ _ => rfl⟩
theorem FR.trans {B : Nat} {w w1 w2 : World} (h : FR B w w1) (h' : FR B w1 w2) : FR B w w2 :=
  ⟨h'.os.trans h.os, h'.tape.trans h.tape, h'.output.trans h.output, Nat.le_trans h.size h'.size, fun k hk => (h'.low k hk).trans (h.low k hk), fun k cs t fr hb h1 h2 => (h'.typ k cs t fr ((h.typ k cs t fr hb h1 h2).trans hb) h1 h2).trans (h.typ k cs t fr hb h1 h2)⟩
theorem FR.of_below {B : Nat} {w w1 : World} (h : Below w.heap.size w w1) (hB : B ≤ w.heap.size) : FR B w w1 :=
  ⟨h.os, h.tape, h.output, h.size, fun k hk => h.block k (by omega), fun k _ _ _ hb _ _ => h.block k (Array.getElem?_eq_some_iff.1 hb).1⟩
theorem FR.drew {B : Nat} (w : World) : FR B w w.drew := ⟨rfl, rfl, rfl, Nat.le_refl _, fun _ _ => rfl, fun _ _ _ _ _ _ _ => rfl⟩
theorem FR.set {B : Nat} {w : World} {g i : Nat} {u : Value} {cs : Array Value} {t : TypeId} (hb : w.heap[g]? = some (.cells cs t (0, 0))) (hB : B ≤ g) (ht : t = tR ∨ t = tM) : FR B w (w.setCell ⟨g, i, none⟩ u) :=
  ⟨rfl, rfl, rfl, by simp [World.setCell], fun k hk => Below.heap_setCell _ _ _ _ (fun e => by have : k = g := e; omega), fun k cs' t' fr hk h1 h2 => Below.heap_setCell _ _ _ _ (fun e => by
    have e : k = g := e
    subst e
    rw [hb] at hk
    injection hk with hk
    injection hk with _ hk _
    subst hk
    rcases ht with h | h
    · exact h1 h
    · exact h2 h)⟩
theorem FR.below {B : Nat} {w w1 : World} (h : FR B w w1) : Below B w w1 := ⟨h.os, h.tape, h.output, h.size, h.low⟩
theorem FR.mono {B B' : Nat} {w w1 : World} (h : FR B w w1) (hB : B' ≤ B) : FR B' w w1 := ⟨h.os, h.tape, h.output, h.size, fun k hk => h.low k (by omega), h.typ⟩

/-- a ring in memory: its quantum, its members -/
def RG (b : Nat) (q : Int) (L : List Mem) (B : Nat) (w : World) : Prop := ∃ v, w.heap[b]? = some (.cells #[.int .i64 q, v] tR (0, 0)) ∧ B ≤ b ∧ kM.R tM w B (fun _ => True) v L
theorem RG.lt {b B : Nat} {q : Int} {L : List Mem} {w : World} (h : RG b q L B w) : b < w.heap.size := by
  obtain ⟨v, hb, _⟩ := h
  exact blk_lt hb
theorem RG.below {b B : Nat} {q : Int} {L : List Mem} {w w1 : World} (h : RG b q L B w) (hb : Below w.heap.size w w1) : RG b q L B w1 := by
  obtain ⟨v, h1, h2, h3⟩ := h
  exact ⟨v, blk_below h1 hb, h2, Kd.R_below h3 hb⟩
/-- laid open -/
theorem RG.opens {b B : Nat} {q : Int} {L : List Mem} {w : World} (h : RG b q L B w) : ∃ A c, w.heap[b]? = some (.cells #[.int .i64 q, .slice A L.length c] tR (0, 0)) ∧ L.length ≤ c ∧ kM.C w A L.length L ∧
    w.cell? ⟨b, 0, none⟩ = some (.int .i64 q) ∧ w.cell? ⟨b, 1, none⟩ = some (.slice A L.length c) ∧ (∀ i, w.frozen? ⟨b, i, none⟩ = false) ∧ kM.R tM w B (fun _ => True) (.slice A L.length c) L ∧ B ≤ b := by
  obtain ⟨v, h1, h2, h3⟩ := h
  obtain ⟨A, c, rfl, hc, hC⟩ := Kd.R_reads h3
  exact ⟨A, c, h1, hc, hC, by rw [blk_cell h1]; rfl, by rw [blk_cell h1]; rfl, fun i => blk_frozen h1 i, h3, h2⟩
end Go.Proofs.Ytbcononfgpfdbaa.D
