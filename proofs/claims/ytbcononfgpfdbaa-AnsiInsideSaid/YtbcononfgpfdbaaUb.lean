/-
  ansi: events and parsers in memory.
-/
import Derived.Test.YtbcononfgpfdbaaUa
import Derived.Test.YtbcononfgpfdbaaQd
import Derived.Test.YtbcononfgpfdbaaNo
import Derived.Deep.MidRow
namespace Go.Proofs.Ytbcononfgpfdbaa.An
open Go.RowKit Go.Proofs.Ytbcononfgpfdbaa.L Go.Proofs.Ytbcononfgpfdbaa.N Go.Proofs.YtbcononfgpfdbaaW.PrintWords

abbrev tE : TypeId := 67
abbrev tP : TypeId := 69
abbrev tI : TypeId := 3
abbrev tR : TypeId := 21
def kE : Kd Ev := Kd.pair (Kd.int .i64) (Kd.pair (Kd.int .i32) (Kd.pair (Kd.int .u8) (Kd.pair (Kd.int .u8) (Kd.pair (Kd.int .u8) (Kd.pair (Kd.slice 3 (Kd.int .i64)) Kd.string)))))
def zE : Ev := (0, 0, 0, 0, 0, [], .empty)
abbrev evA (e : Ev) (A : Option Addr) (c : Nat) : Array Value := #[.int .i64 e.1, .int .i32 e.2.1, .int .u8 e.2.2.1, .int .u8 e.2.2.2.1, .int .u8 e.2.2.2.2.1, .slice A e.2.2.2.2.2.1.length c, .string e.2.2.2.2.2.2]
theorem info_E : (Try.prog.info? tE).map (fun i => (i.zero, i.size, i.bytes)) = some (some (.agg #[.int .i64 0, .int .i32 0, .int .u8 0, .int .u8 0, .int .u8 0, .slice none 0 0, .string ⟨#[]⟩]), 7, 56) := by kernel_rfl
theorem info_i : (Try.prog.info? tI).map (fun i => (i.zero, i.size, i.bytes)) = some (some (.int .i64 0), 1, 8) := by kernel_rfl
theorem info_r : (Try.prog.info? tR).map (fun i => (i.zero, i.size, i.bytes)) = some (some (.int .i32 0), 1, 4) := by kernel_rfl
theorem E_cells {w : World} {e : Ev} {cs : List Value} : kE.K w e cs ↔ ∃ A c, cs = (evA e A c).toList ∧ e.2.2.2.2.2.1.length ≤ c ∧ (Kd.int .i64).C w A e.2.2.2.2.2.1.length e.2.2.2.2.2.1 := by
  constructor
  · rintro ⟨_, _, rfl, rfl, _, _, rfl, rfl, _, _, rfl, rfl, _, _, rfl, rfl, _, _, rfl, rfl, _, _, rfl, ⟨A, c, rfl, h1, h2⟩, rfl⟩
    exact ⟨A, c, rfl, h1, h2⟩
  · rintro ⟨A, c, rfl, h1, h2⟩
    exact ⟨[_], _, rfl, rfl, [_], _, rfl, rfl, [_], _, rfl, rfl, [_], _, rfl, rfl, [_], _, rfl, rfl, [_], _, rfl, ⟨A, c, rfl, h1, h2⟩, rfl⟩
/-- a row of events, laid open -/
theorem E_open {w : World} {A : Option Addr} {l : List Ev} (h : kE.C w A l.length l) :
    l.length ≤ 9223372036854775807 ∧ (l = [] ∨ ∃ b off, A = some ⟨b, off, none⟩ ∧ b < w.heap.size ∧ ∀ j, j < l.length → ∃ Aj cj, (∀ i, i < 7 → w.cell? ⟨b, off + (j * 7 + i), none⟩ = (evA (l.getD j zE) Aj cj)[i]?) ∧ (l.getD j zE).2.2.2.2.2.1.length ≤ cj ∧ (Kd.int .i64).C w Aj (l.getD j zE).2.2.2.2.2.1.length (l.getD j zE).2.2.2.2.2.1) := by
  refine ⟨h.2.1, ?_⟩
  rcases Nat.eq_zero_or_pos l.length with h0 | h0
  · exact .inl (List.eq_nil_of_length_eq_zero h0)
  · right
    have key : ∀ j, j < l.length → ∃ ad, A = some ad ∧ ∃ Aj cj, (∀ i, i < 7 → w.cell? (ad.add (j * 7 + i)) = (evA (l.getD j zE) Aj cj)[i]?) ∧ (l.getD j zE).2.2.2.2.2.1.length ≤ cj ∧ (Kd.int .i64).C w Aj (l.getD j zE).2.2.2.2.2.1.length (l.getD j zE).2.2.2.2.2.1 := by
      intro j hj
      obtain ⟨ad, c, e, _, hk, hc⟩ := Kd.C_get h zE j (by omega) (by omega)
      obtain ⟨Aj, cj, hk, h1, h2⟩ := E_cells.1 hk
      subst hk
      simp only [Int.toNat_natCast] at hc
      refine ⟨ad, e, Aj, cj, fun i hi => ?_, h1, h2⟩
      have hi7 : i < (evA (l.getD j zE) Aj cj).toList.length := hi
      have := hc i ((evA (l.getD j zE) Aj cj).toList[i]'hi7) (List.getElem?_eq_getElem hi7)
      rw [show j * 7 + i = j * kE.sz + i from rfl, this]
      exact (List.getElem?_eq_getElem hi7).symm.trans (by simp)
    obtain ⟨ad, e, A0, c0, k0, _⟩ := key 0 h0
    obtain ⟨b, off, spot⟩ := ad
    have c00 := k0 0 (by decide)
    have hs : spot = none := by
      have := World.cell?_spot (c00.trans rfl)
      simpa [Addr.add] using this
    subst hs
    rw [add_at] at c00
    refine ⟨b, off, e, World.block_lt_of_cell? w ⟨b, off + (0 * 7 + 0), none⟩ (c00.trans rfl), fun j hj => ?_⟩
    obtain ⟨ad, e', Aj, cj, k1, h1, h2⟩ := key j hj
    rw [e] at e'
    injection e' with e'
    subst e'
    refine ⟨Aj, cj, fun i hi => ?_, h1, h2⟩
    have := k1 i hi
    rwa [add_at] at this
/-- a row of one's own, when an object of another type is written -/
theorem R_obj {α : Type} {d : Kd α} {e t : TypeId} {w w1 : World} {base b : Nat} {v : Value} {xs : List α} {cs : Array Value} (h : d.R e w base (fun _ => True) v xs) (hb : w.heap[b]? = some (.cells cs t (0, 0))) (ht : ∀ q, q ∈ e :: d.E → q ≠ t) (hg : w.grownBy w1 (some b)) : d.R e w1 base (fun _ => True) v xs :=
  Kd.R_mono (Kd.R_grown (Kd.R_types h hb ht) hg (fun k hk he => by injection he with he; exact hk.2 he)) (fun _ _ => trivial)
/-- a parser's cells -/
abbrev PCt (t : ByteArray) (S : St) (vp vt vo : Value) : Array Value := #[.bool true, .int .i64 (S.st : Int), .int .i64 0, .int .i32 0, .int .u8 (S.pr : Int), .int .u8 (S.it : Int), .int .u8 0, vp, .string t, .bool S.came, .bool S.gone, .bool S.marked, vt, vo]
abbrev PC (S : St) (vp vt vo : Value) : Array Value := PCt ⟨#[]⟩ S vp vt vo
structure PMt (t : ByteArray) (n0 b : Nat) (vp vt vo : Value) (S : St) (evs : List Ev) (w : World) : Prop where
  blk : w.heap[b]? = some (.cells (PCt t S vp vt vo) tP (0, 0))
  par : (Kd.int .i64).R tI w n0 (fun _ => True) vp (nat S.par)
  txt : (Kd.int .i32).R tR w n0 (fun _ => True) vt (nat S.text)
  out : kE.R tE w n0 (fun k => some k ≠ vp.ownBlock) vo evs
  ge : n0 ≤ b
  oks : OK S
abbrev PM (n0 b : Nat) (vp vt vo : Value) (S : St) (evs : List Ev) (w : World) : Prop := PMt ⟨#[]⟩ n0 b vp vt vo S evs w
/-- of the block of one's own a new value has: as before, or new -/
def NO (w : World) (v v' : Value) : Prop := ∀ k, v'.ownBlock = some k → v.ownBlock = some k ∨ w.heap.size ≤ k
theorem NO.self (w : World) (v : Value) : NO w v v := fun _ h => .inl h
theorem NO.nil (w : World) (v : Value) : NO w v (.slice none 0 0) := fun _ h => by cases h
theorem NO.trans {w w1 : World} {v v1 v2 : Value} (h : NO w v v1) (h2 : NO w1 v1 v2) (hs : w.heap.size ≤ w1.heap.size) : NO w v v2 := fun k hk => by
  rcases h2 k hk with h3 | h3
  · exact h k h3
  · exact .inr (by omega)
/-- what a call leaves alone -/
structure TR (b : Nat) (vp vt vo vp' vt' vo' : Value) (w w' : World) : Prop where
  os : w'.os = w.os
  tape : w'.tape = w.tape
  output : w'.output = w.output
  size : w.heap.size ≤ w'.heap.size
  keep : ∀ k, k < w.heap.size → k ≠ b → some k ≠ vp.ownBlock → some k ≠ vt.ownBlock → some k ≠ vo.ownBlock → w'.heap[k]? = w.heap[k]?
  np : NO w vp vp'
  nt : NO w vt vt'
  no : NO w vo vo'
theorem TR.refl (b : Nat) (vp vt vo : Value) (w : World) : TR b vp vt vo vp vt vo w w := ⟨rfl, rfl, rfl, Nat.le_refl _, fun _ _ _ _ _ _ => rfl, NO.self _ _, NO.self _ _, NO.self _ _⟩
theorem TR.trans {b : Nat} {vp vt vo vp1 vt1 vo1 vp2 vt2 vo2 : Value} {w w1 w2 : World} (h : TR b vp vt vo vp1 vt1 vo1 w w1) (h2 : TR b vp1 vt1 vo1 vp2 vt2 vo2 w1 w2) : TR b vp vt vo vp2 vt2 vo2 w w2 :=
  ⟨h2.os.trans h.os, h2.tape.trans h.tape, h2.output.trans h.output, Nat.le_trans h.size h2.size, fun k hk hb h3 h4 h5 => by
    refine (h2.keep k (Nat.lt_of_lt_of_le hk h.size) hb (fun e => ?_) (fun e => ?_) (fun e => ?_)).trans (h.keep k hk hb h3 h4 h5)
    · rcases h.np k e.symm with h6 | h6
      · exact h3 h6.symm
      · omega
    · rcases h.nt k e.symm with h6 | h6
      · exact h4 h6.symm
      · omega
    · rcases h.no k e.symm with h6 | h6
      · exact h5 h6.symm
      · omega, h.np.trans h2.np h.size, h.nt.trans h2.nt h.size, h.no.trans h2.no h.size⟩
/-- only the parser itself is written -/
theorem TR.obj {b : Nat} {vp vt vo vp' vt' vo' : Value} {w w' : World} (hg : w.grownBy w' (some b)) (h1 : NO w vp vp') (h2 : NO w vt vt') (h3 : NO w vo vo') : TR b vp vt vo vp' vt' vo' w w' :=
  ⟨hg.os, hg.tape, hg.output, hg.size, fun k hk hb _ _ _ => hg.block k hk (fun e => hb (by injection e)), h1, h2, h3⟩
end Go.Proofs.Ytbcononfgpfdbaa.An
