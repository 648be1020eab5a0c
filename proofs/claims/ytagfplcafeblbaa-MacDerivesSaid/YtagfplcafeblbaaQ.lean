/-
  A region that draws its order, walked once: what only reads is taken as soon as it may come up, what makes or writes memory comes up alone; the worlds grow.
-/
import Derived.Test.YtagfplcafeblbaaL
import Derived.OrdersHeld
import Derived.Deep.QuietTactic
import Derived.BigQuiet
namespace Go.Proofs.Ytagfplcafeblbaa.Q
open Go.RowKit Go.Proofs.Ytagfplcafeblbaa.L Go.Proofs.YtagfplcafeblbaaW.PrintWords

/-- What has become of W below block B, one row apart: nothing. -/
structure Gr (B : Nat) (row : Option Nat) (W w : World) : Prop where
  os : w.os = W.os
  tape : w.tape = W.tape
  output : w.output = W.output
  size : W.heap.size ≤ w.heap.size
  block : ∀ k, k < B → some k ≠ row → w.heap[k]? = W.heap[k]?
theorem Gr.refl (B : Nat) (row : Option Nat) (W : World) : Gr B row W W := ⟨rfl, rfl, rfl, Nat.le_refl _, fun _ _ _ => rfl⟩
theorem Gr.of_below {B : Nat} {W w : World} (row : Option Nat) (h : Below W.heap.size W w) (hB : B ≤ W.heap.size) : Gr B row W w := ⟨h.os, h.tape, h.output, h.size, fun k hk _ => h.block k (by omega)⟩
theorem Gr.of_grown {B : Nat} {W w : World} {row : Option Nat} (h : W.grownBy w row) (hB : B ≤ W.heap.size) : Gr B row W w := ⟨h.os, h.tape, h.output, h.size, fun k hk hne => h.block k (by omega) hne⟩
/-- The world is W with a box, which the append has used up. -/
theorem Gr.of_box {B : Nat} {W w : World} {o : Obj} {row : Option Nat} (h : W.grownBy w row) (hs : W.heap.size + 1 ≤ w.heap.size) (hB : B ≤ W.heap.size) : Gr B row (W.alloc o) w :=
  ⟨h.os, h.tape, h.output, by simpa using hs, fun k hk hne => (h.block k (by omega) hne).trans (Below.heap_alloc W o k (by omega)).symm⟩
/-- A world that has grown out of W. -/
structure GW (W : World) (B : Nat) (row : Option Nat) where
  w : World
  h : Gr B row W w
instance (W : World) (B : Nat) (row : Option Nat) : Nonempty (GW W B row) := ⟨⟨W, Gr.refl _ _ _⟩⟩
def InG (W : World) (B : Nat) (row : Option Nat) (w' : World) : Prop := ∃ n : GW W B row, w' = n.w
theorem InG.self (W : World) (B : Nat) (row : Option Nat) : InG W B row W := ⟨⟨W, Gr.refl _ _ _⟩, rfl⟩
/-- A row that may take another one's place: the same, or a newer one. -/
def NewRow (B : Nat) (row row' : Option Nat) : Prop := ∀ k, row' = some k → row = some k ∨ B ≤ k
theorem NewRow.self (B : Nat) (row : Option Nat) : NewRow B row row := fun _ h => .inl h
theorem NewRow.none_ (B : Nat) (row : Option Nat) : NewRow B row none := fun _ h => by cases h
theorem InG.mono {W W1 : World} {B B1 : Nat} {row row' : Option Nat} (h : Gr B row W W1) (hB : B ≤ B1) (hr : NewRow B row row') {w' : World} (hw : InG W1 B1 row' w') : InG W B row w' := by
  obtain ⟨n, rfl⟩ := hw
  refine ⟨⟨n.w, ⟨n.h.os.trans h.os, n.h.tape.trans h.tape, n.h.output.trans h.output, Nat.le_trans h.size n.h.size, fun i hi hne => ?_⟩⟩, rfl⟩
  refine (n.h.block i (by omega) (fun he => ?_)).trans (h.block i hi hne)
  rcases hr i he.symm with h1 | h1
  · exact hne h1.symm
  · omega
theorem GW.below {W : World} (n : GW W W.heap.size none) : Below W.heap.size W n.w := ⟨n.h.os, n.h.tape, n.h.output, n.h.size, fun i hi => n.h.block i hi (by simp)⟩
theorem GW.belowB {W : World} {row : Option Nat} {B C : Nat} (n : GW W B row) (hB : C ≤ B) (hr : ∀ k, row = some k → C ≤ k) : Below C W n.w :=
  ⟨n.h.os, n.h.tape, n.h.output, n.h.size, fun i hi => n.h.block i (by omega) (fun he => by have := hr i he.symm; omega)⟩

/-- Operations that yield a value and leave the world alone, if they run at all. -/
def qk (o : Oper) : Bool := match o.op with
  | .move _ | .assign _ | .pick .. | .load .. | .binOp .. | .unOp .. | .convert .. | .slice .. | .fieldAddr .. | .field .. | .indexAddr .. | .index .. | .extract .. | .build .. | .makeInterface .. | .typeAssert .. | .lookup .. | .nilCheck _ => true
  | .call { callee := .builtin .len, .. } | .call { callee := .builtin .cap, .. } | .call { callee := .builtin .max, .. } | .call { callee := .builtin .min, .. } => true
  | _ => false
theorem of_then {P : Program} {s : Sem Value} {w w' : World} {n : Next} (h : (do pure (Next.value (← s)) : Sem Next).run P w = .ok n w') : ∃ u, n = .value u := by
  rw [Sem.run_bind] at h
  cases hs : s.run P w with
  | ok a w1 =>
    rw [hs] at h
    simp only [Result.andThen] at h
    have h1 : Result.ok (Next.value a) w1 = Result.ok n w' := h
    injection h1 with h1 _
    exact ⟨a, h1.symm⟩
  | halt x w1 =>
    rw [hs] at h
    cases h
theorem of_bind {α : Type} {P : Program} {s : Sem α} {f : α → Sem Next} {w w' : World} {n : Next} (hf : ∀ a w1 n1 w2, (f a).run P w1 = .ok n1 w2 → ∃ u, n1 = Next.value u) (h : (s >>= f).run P w = .ok n w') : ∃ u, n = Next.value u := by
  have h' : (Sem.bind s f).run P w = .ok n w' := h
  rw [show (Sem.bind s f).run P w = (s.run P w).andThen (fun a w1 => (f a).run P w1) from Sem.run_bind _ _ _ _] at h'
  cases hs : s.run P w with
  | ok a w1 =>
    rw [hs] at h'
    exact hf a w1 n w' h'
  | halt x w1 =>
    rw [hs] at h'
    cases h'
theorem value_of {P : Program} {o : Oper} {ρ : Operand → Value} {w w' : World} {n : Next} (hk : qk o = true) (h : (execOp ρ o).run P w = .ok n w') : ∃ u, n = .value u := by
  obtain ⟨dst, op, type, pos, after, guard⟩ := o
  cases op <;> first | (exact absurd (show false = true from hk) (by decide)) | (exact of_then h) | skip
  case move => injection h with h _; exact ⟨_, h.symm⟩
  case assign => injection h with h _; exact ⟨_, h.symm⟩
  case pick c a b =>
    have h' : (do let x ← asBool (ρ c); pure (Next.value (if x then ρ a else ρ b)) : Sem Next).run P w = .ok n w' := h
    rw [Sem.run_bind] at h'
    cases hs : (asBool (ρ c)).run P w with
    | ok x w1 =>
      rw [hs] at h'
      simp only [Result.andThen] at h'
      have h1 : Result.ok (Next.value (if x then ρ a else ρ b)) w1 = Result.ok n w' := h'
      injection h1 with h1 _
      exact ⟨_, h1.symm⟩
    | halt x w1 =>
      rw [hs] at h'
      cases h'
  case nilCheck x =>
    have np : ∀ {α : Type} {r : α}, ¬ (runtimePanic .nilDeref : Sem α).run P w = .ok r w' := fun {α r} e => by
      have h1 : (runtimePanic .nilDeref : Sem α).run P w = .halt (.panic (.iface P.rt.errorString (strVal "invalid memory address or nil pointer dereference"))) w := rfl
      rw [h1] at e
      cases e
    simp only [execOp] at h
    split at h
    · exact absurd h np
    · exact absurd h np
    · exact absurd h np
    · split at h
      · exact absurd h np
      · refine of_bind (fun a w1 n1 w2 h1 => of_bind (fun b w3 n2 w4 h2 => ?_) h1) h
        first
          | exact of_bind (fun _ _ _ _ h3 => by injection h3 with h3 _; exact ⟨_, h3.symm⟩) h2
          | (split at h2 <;> first
              | exact of_bind (fun _ _ _ _ h3 => by injection h3 with h3 _; exact ⟨_, h3.symm⟩) h2
              | (injection h2 with h3 _; exact ⟨_, h3.symm⟩))
      · injection h with h _; exact ⟨_, h.symm⟩
    · injection h with h _; exact ⟨_, h.symm⟩
  case call c =>
    obtain ⟨callee, args, tys⟩ := c
    cases callee <;> first | (exact absurd (show false = true from hk) (by decide)) | skip
    case builtin b =>
      cases b <;> first | (exact absurd (show false = true from hk) (by decide)) | skip
      case len => exact of_then (s := Builtin.len_ tys type (args.map ρ)) h
      case cap => exact of_then (s := Builtin.cap_ tys type (args.map ρ)) h
      case max => exact of_then (s := Builtin.max_ tys type (args.map ρ)) h
      case min => exact of_then (s := Builtin.min_ tys type (args.map ρ)) h
theorem run_of_quietAt {P : Program} {o : Oper} {a : Act} {C : World → Prop} {w : World} {v : Value} (hk : qk o = true) (h : o.quietAt P a C w v) : (execOp a.eval o).run P w = .ok (.value v) w := by
  unfold Oper.quietAt at h
  cases hr : (execOp a.eval o).run P w with
  | ok n w' =>
    obtain ⟨u, rfl⟩ := value_of hk hr
    rw [hr] at h
    obtain ⟨rfl, rfl⟩ := (show w' = w ∧ u = v from h)
    rfl
  | halt x w' =>
    rw [hr] at h
    exact (show False from h).elim

/-- An event's post: the world has grown, and it goes on. -/
def EvQ (G : World → Prop) (K : Act → World → Prop) (Q : Exit → Act → World → Prop) : Exit → Act → World → Prop
  | .normal, a, w => G w ∧ K a w
  | .panic c, a, w => Q (.panic c) a w
  | .outgrown, a, w => Q .outgrown a w
  | _, _, _ => False
theorem ev_done0 {G : World → Prop} {K : Act → World → Prop} {Q : Exit → Act → World → Prop} {a : Act} {w : World} (h : G w) (k : K a w) : EvQ G K Q .normal a w := ⟨h, k⟩
theorem ev_lets {G : World → Prop} {K : Act → World → Prop} {Q : Exit → Act → World → Prop} (h : LetsOut (EvQ G K Q)) : LetsOut Q := h
theorem ev_wp {P : Program} {G : World → Prop} {K : Act → World → Prop} {Q : Exit → Act → World → Prop} {o : Oper} {a : Act} {w : World} {K1 K' : Act → World → Prop} (h : ∀ a w, K1 a w → K' a w) (hh : o.wp P a w K1 (EvQ G K Q)) : o.wp P a w K' Q := by
  unfold Oper.wp at *
  generalize (execOp a.eval o).run P w = r at *
  cases r with
  | ok n w' =>
    cases n <;> simp only [Oper.upon] at hh ⊢ <;>
      first
        | exact h _ _ hh
        | exact Calls.mono hh (fun e w'' he => by cases e <;> first | exact h _ _ he | exact he)
        | exact Rows.mono hh (fun _ _ he => h _ _ he)
  | halt x w' => cases x <;> simp only [Oper.upon] at hh ⊢ <;> exact hh

/-- Operation number i. -/
def pick : List Oper → Nat → Oper
  | o :: _, 0 => o
  | _ :: l, n + 1 => pick l n
  | [], _ => default
def picks (l : List Oper) : List Nat → List Oper
  | [] => []
  | i :: r => pick l i :: picks l r
theorem pick_get : ∀ {l : List Oper} {i : Nat}, i < l.length → l[i]? = some (pick l i)
  | [], i, h => by simp at h
  | o :: l, 0, _ => rfl
  | o :: l, n + 1, h => by
    have := pick_get (l := l) (i := n) (by simpa using h)
    show (o :: l)[n + 1]? = some (pick l n)
    simpa using this

/-- The walk: what only reads, in each stretch in the order given; then what comes up alone. -/
def Goes (K : Nat → Option Nat → Act → World → Prop) (B : Nat) (row : Option Nat) (a : Act) (w : World) : Prop := ∃ B' row', B ≤ B' ∧ NewRow B row row' ∧ K B' row' a w
def wpSegs (P : Program) (l : List Oper) (Q : Exit → Act → World → Prop) : List (List Nat × Option Nat) → Nat → Option Nat → Act → World → Prop
  | [], _, _, a, w => Q .normal a w
  | (is, none) :: r, B, row, a, w => wpQuiet P l.toArray (fun w' => ∃ n : GW w B row, w' = n.w) (fun a' => wpSegs P l Q r B row a' w) (picks l is) a
  | (is, some k) :: r, B, row, a, w => wpQuiet P l.toArray (fun w' => ∃ n : GW w B row, w' = n.w) (fun a' => wpList P l.toArray (EvQ (Gr B row w) (Goes (wpSegs P l Q r) B row) Q) [pick l k] a' w) (picks l is) a
/-- Behind an event that changes nothing older: facts on all that is there now hold on. -/
theorem ev_done {W w : World} {B : Nat} {row : Option Nat} {K : Nat → Option Nat → Act → World → Prop} {Q : Exit → Act → World → Prop} {a : Act} (h : Below W.heap.size W w) (hB : B ≤ W.heap.size) (k : K w.heap.size row a w) :
    EvQ (Gr B row W) (Goes K B row) Q .normal a w := ⟨Gr.of_below row h hB, w.heap.size, row, Nat.le_trans hB h.size, NewRow.self _ _, k⟩
/-- .. facts on what was there at the beginning hold on. -/
theorem ev_keep {W w : World} {B : Nat} {row : Option Nat} {K : Nat → Option Nat → Act → World → Prop} {Q : Exit → Act → World → Prop} {a : Act} (h : Below W.heap.size W w) (hB : B ≤ W.heap.size) (k : K B row a w) :
    EvQ (Gr B row W) (Goes K B row) Q .normal a w := ⟨Gr.of_below row h hB, B, row, Nat.le_refl _, NewRow.self _ _, k⟩
theorem ev_app {W w : World} {B B' : Nat} {row row' : Option Nat} {K : Nat → Option Nat → Act → World → Prop} {Q : Exit → Act → World → Prop} {a : Act} (h : Gr B row W w) (hB : B ≤ B') (hr : NewRow B row row') (k : K B' row' a w) :
    EvQ (Gr B row W) (Goes K B row) Q .normal a w := ⟨h, B', row', hB, hr, k⟩

def quietB (md : Region.Mode) (l : List Oper) : List Nat → Array Bool → Option (Array Bool)
  | [], b => some b
  | i :: r, b => if decide (i < l.length) && qk (pick l i) && Region.free md l.toArray b i && (Region.ready md l.toArray b).contains i then quietB md l r (b.setIfInBounds i true) else none
def segB (md : Region.Mode) (l : List Oper) : List (List Nat × Option Nat) → Array Bool → Bool
  | [], b => Region.ready md l.toArray b == []
  | (is, none) :: r, b => match quietB md l is b with
    | some b' => segB md l r b'
    | none => false
  | (is, some k) :: r, b => match quietB md l is b with
    | some b' => decide (k < l.length) && (Region.ready md l.toArray b' == [k]) && segB md l r (b'.setIfInBounds k true)
    | none => false
def segN : List (List Nat × Option Nat) → Nat
  | [] => 0
  | (is, none) :: r => is.length + segN r
  | (is, some _) :: r => is.length + (segN r + 1)

section
variable {P : Program} {l : List Oper} {Q : Exit → Act → World → Prop} {md : Region.Mode}
theorem held_mono {S S' : World → Prop} (h : ∀ w, S' w → S w) : ∀ (fuel : Nat) (b : Array Bool) (a : Act) (w : World), wpAnyH P md l.toArray Q S' fuel b a w → wpAnyH P md l.toArray Q S fuel b a w
  | 0, _, _, _, hh => hh
  | fuel + 1, _, _, _, hh => ⟨hh.1, fun i hi => wpOp_mono (fun a' w' h' => ⟨h _ h'.1, held_mono h fuel _ a' w' h'.2⟩) (hh.2 i hi)⟩

theorem quiet_sound (hs : Region.noSelect l.toArray = true) (hQ : ∀ c a d v w, Q (.panic c) (a.put d v) w → Q (.panic c) a w) {w : World} {B : Nat} {row : Option Nat} {K : Act → Prop} {n : Nat} :
    ∀ (is : List Nat) (b b' : Array Bool) (a : Act), quietB md l is b = some b' → (∀ a', K a' → wpAnyH P md l.toArray Q (InG w B row) n b' a' w) → wpQuiet P l.toArray (InG w B row) K (picks l is) a → wpAnyH P md l.toArray Q (InG w B row) (is.length + n) b a w
  | [], b, b', a, hb, hk, h => by
    injection hb with hb
    subst hb
    rw [List.length_nil, Nat.zero_add]
    exact hk a h
  | i :: r, b, b', a, hb, hk, h => by
    unfold quietB at hb
    split at hb
    · rename_i hc
      simp only [Bool.and_eq_true, decide_eq_true_eq] at hc
      obtain ⟨⟨⟨h1, h2⟩, h3⟩, h4⟩ := hc
      have hi : l.toArray[i]? = some (pick l i) := by simpa using pick_get h1
      rw [List.length_cons, show r.length + 1 + n = (r.length + n) + 1 from by omega]
      have h' : if Region.wanted (pick l i) (yielded l.toArray a.tmps) then (pick l i).quiet P a (InG w B row) (wpQuiet P l.toArray (InG w B row) K (picks l r)) else wpQuiet P l.toArray (InG w B row) K (picks l r) (a.put (pick l i).dst undef) := h
      by_cases hw : Region.wanted (pick l i) (yielded l.toArray a.tmps) = true
      · rw [if_pos hw] at h'
        obtain ⟨v, hv, hn⟩ := h'
        exact wpAnyH_take hi hs h3 h4 (fun c a w => hQ c a _ _ w) (.inl ⟨hw, fun w' hw' => run_of_quietAt h2 (hv w' hw')⟩) (InG.self w B row) (quiet_sound hs hQ r _ b' _ hb hk hn)
      · rw [if_neg hw] at h'
        exact wpAnyH_take hi hs h3 h4 (fun c a w => hQ c a _ _ w) (.inr ⟨by simpa using hw, rfl⟩) (InG.self w B row) (quiet_sound hs hQ r _ b' _ hb hk h')
    · cases hb

theorem segs_sound (hs : Region.noSelect l.toArray = true) (hQ : ∀ c a d v w, Q (.panic c) (a.put d v) w → Q (.panic c) a w) :
    ∀ (segs : List (List Nat × Option Nat)) (B : Nat) (row : Option Nat) (b : Array Bool) (a : Act) (w : World), segB md l segs b = true → wpSegs P l Q segs B row a w → wpAnyH P md l.toArray Q (InG w B row) (segN segs) b a w
  | [], B, row, b, a, w, hb, h => ⟨by simpa [segB] using hb, h⟩
  | (is, none) :: r, B, row, b, a, w, hb, h => by
    unfold segB at hb
    split at hb
    · rename_i b' hq
      exact quiet_sound hs hQ is b b' a hq (fun a' ha' => segs_sound hs hQ r B row b' a' w hb ha') h
    · cases hb
  | (is, some k) :: r, B, row, b, a, w, hb, h => by
    unfold segB at hb
    split at hb
    · rename_i b' hq
      simp only [Bool.and_eq_true, decide_eq_true_eq, beq_iff_eq] at hb
      obtain ⟨⟨h1, h2⟩, h3⟩ := hb
      refine quiet_sound (n := segN r + 1) hs hQ is b b' a hq (fun a' ha' => ?_) h
      refine wpAnyH_all h2 (by simp) (fun i hi => ?_)
      obtain rfl : i = k := by simpa using hi
      have hi' : l.toArray[i]? = some (pick l i) := by simpa using pick_get h1
      have key : ∀ a'' w'', (Gr B row w w'' ∧ ∃ B' row', B ≤ B' ∧ NewRow B row row' ∧ wpSegs P l Q r B' row' a'' w'') → InG w B row w'' ∧ wpAnyH P md l.toArray Q (InG w B row) (segN r) (b'.setIfInBounds i true) a'' w'' := fun a'' w'' hh => by
        obtain ⟨hg, B', row', hBB, hr, hh⟩ := hh
        exact ⟨⟨⟨w'', hg⟩, rfl⟩, held_mono (fun _ hw' => InG.mono hg hBB hr hw') _ _ _ _ (segs_sound hs hQ r B' row' _ a'' w'' h3 hh)⟩
      unfold wpOp
      simp only [hi']
      simp only [wpList] at ha'
      by_cases hw : Region.wanted (pick l i) (yielded l.toArray a'.tmps) = true
      · rw [if_pos hw] at ha' ⊢
        rcases ha' with ha' | ⟨h4, h5⟩
        · exact .inl (ev_wp (fun a'' w'' hh => key a'' w'' hh) ha')
        · exact .inr ⟨h4, ev_lets h5⟩
      · rw [if_neg hw] at ha' ⊢
        exact key _ _ ha'
    · cases hb

/-- A REGION THAT DRAWS ITS ORDER, by its stretches. -/
theorem wp_region_segs {id : Nat} {a : Act} {w : World} (row : Option Nat) (segs : List (List Nat × Option Nat)) (hm : P.follows .mixedOrders = true) (hs : Region.noSelect l.toArray = true)
    (hb : segB .any l segs (Array.replicate l.length false) = true) (hn : segN segs = l.length)
    (h : wpSegs P l (NoPanic Q) segs w.heap.size row a w.drew) : (Code.region id l.toArray true).wp P Q a w := by
  refine wp_region_noPanic (wp_region_held (S := InG w.drew w.heap.size row) hm ?_)
  have := segs_sound hs (Q := NoPanic Q) (fun _ _ _ _ _ h => h) segs w.heap.size row _ a w.drew hb h
  rw [hn] at this
  simpa using this
end
end Go.Proofs.Ytagfplcafeblbaa.Q
