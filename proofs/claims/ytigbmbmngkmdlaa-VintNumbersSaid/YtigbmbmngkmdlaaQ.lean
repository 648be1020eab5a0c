/-
  A region that draws its order, walked once: what only reads is taken as soon as it may come up, what makes or writes memory comes up alone; the worlds grow.
-/
import Derived.Test.YtigbmbmngkmdlaaL
import Derived.OrdersHeld
import Derived.Deep.QuietTactic
import Derived.BigQuiet
namespace Go.Proofs.Ytigbmbmngkmdlaa.Q
open Go.RowKit Go.Proofs.Ytigbmbmngkmdlaa.L

/-- A world that has grown out of W. -/
structure GW (W : World) where
  w : World
  h : Below W.heap.size W w
instance (W : World) : Nonempty (GW W) := ⟨⟨W, Below.refl _ _⟩⟩
def InG (W : World) (w' : World) : Prop := ∃ n : GW W, w' = n.w
theorem InG.self (W : World) : InG W W := ⟨⟨W, Below.refl _ _⟩, rfl⟩
theorem InG.mono {W W1 : World} (h : Below W.heap.size W W1) {w' : World} (hw : InG W1 w') : InG W w' := by
  obtain ⟨n, rfl⟩ := hw
  exact ⟨⟨n.w, stay1 h n.h⟩, rfl⟩

/-- Operations that yield a value and leave the world alone, if they run at all. -/
def qk (o : Oper) : Bool := match o.op with
  | .move _ | .assign _ | .pick .. | .load .. | .binOp .. | .unOp .. | .convert .. | .slice .. | .fieldAddr .. | .field .. | .indexAddr .. | .index .. | .extract .. | .build .. | .makeInterface .. | .typeAssert .. | .lookup .. => true
  | .call { callee := .builtin .len, .. } | .call { callee := .builtin .cap, .. } | .call { callee := .builtin .max, .. } | .call { callee := .builtin .min, .. } => true
  | _ => false
theorem of_then {P : Program} {s : Sem Value} {w w' : World} {n : Next} (h : (do pure (Next.value (← s)) : Sem Next).run P w = .ok n w') : ∃ u, n = .value u := by
  rw [Sem.run_bind] at h
  cases hs : s.run P w with
  | ok a w1 =>
    rw [hs] at h
    simp only [Result.andThen] at h
    have h1 : Result.ok (Next.value a) w1 = Result.ok n w' := h
    injection h1 with h1 _
    exact ⟨a, h1.symm⟩
  | halt x w1 =>
    rw [hs] at h
    cases h
theorem value_of {P : Program} {o : Oper} {ρ : Operand → Value} {w w' : World} {n : Next} (hk : qk o = true) (h : (execOp ρ o).run P w = .ok n w') : ∃ u, n = .value u := by
  obtain ⟨dst, op, type, pos, after, guard⟩ := o
  cases op <;> first | (exact absurd (show false = true from hk) (by decide)) | (exact of_then h) | skip
  case move => injection h with h _; exact ⟨_, h.symm⟩
  case assign => injection h with h _; exact ⟨_, h.symm⟩
  case pick c a b =>
    have h' : (do let x ← asBool (ρ c); pure (Next.value (if x then ρ a else ρ b)) : Sem Next).run P w = .ok n w' := h
    rw [Sem.run_bind] at h'
    cases hs : (asBool (ρ c)).run P w with
    | ok x w1 =>
      rw [hs] at h'
      simp only [Result.andThen] at h'
      have h1 : Result.ok (Next.value (if x then ρ a else ρ b)) w1 = Result.ok n w' := h'
      injection h1 with h1 _
      exact ⟨_, h1.symm⟩
    | halt x w1 =>
      rw [hs] at h'
      cases h'
  case call c =>
    obtain ⟨callee, args, tys⟩ := c
    cases callee <;> first | (exact absurd (show false = true from hk) (by decide)) | skip
    case builtin b =>
      cases b <;> first | (exact absurd (show false = true from hk) (by decide)) | skip
      case len => exact of_then (s := Builtin.len_ tys type (args.map ρ)) h
      case cap => exact of_then (s := Builtin.cap_ tys type (args.map ρ)) h
      case max => exact of_then (s := Builtin.max_ tys type (args.map ρ)) h
      case min => exact of_then (s := Builtin.min_ tys type (args.map ρ)) h
theorem run_of_quietAt {P : Program} {o : Oper} {a : Act} {C : World → Prop} {w : World} {v : Value} (hk : qk o = true) (h : o.quietAt P a C w v) : (execOp a.eval o).run P w = .ok (.value v) w := by
  unfold Oper.quietAt at h
  cases hr : (execOp a.eval o).run P w with
  | ok n w' =>
    obtain ⟨u, rfl⟩ := value_of hk hr
    rw [hr] at h
    obtain ⟨rfl, rfl⟩ := (show w' = w ∧ u = v from h)
    rfl
  | halt x w' =>
    rw [hr] at h
    exact (show False from h).elim

/-- An event's post: the world has grown, and it goes on. -/
def EvQ (G : World → Prop) (K : Act → World → Prop) (Q : Exit → Act → World → Prop) : Exit → Act → World → Prop
  | .normal, a, w => G w ∧ K a w
  | .panic c, a, w => Q (.panic c) a w
  | .outgrown, a, w => Q .outgrown a w
  | _, _, _ => False
theorem ev_done {G : World → Prop} {K : Act → World → Prop} {Q : Exit → Act → World → Prop} {a : Act} {w : World} (h : G w) (k : K a w) : EvQ G K Q .normal a w := ⟨h, k⟩
theorem ev_lets {G : World → Prop} {K : Act → World → Prop} {Q : Exit → Act → World → Prop} (h : LetsOut (EvQ G K Q)) : LetsOut Q := h
theorem ev_wp {P : Program} {G : World → Prop} {K : Act → World → Prop} {Q : Exit → Act → World → Prop} {o : Oper} {a : Act} {w : World} {K1 K' : Act → World → Prop} (h : ∀ a w, K1 a w → K' a w) (hh : o.wp P a w K1 (EvQ G K Q)) : o.wp P a w K' Q := by
  unfold Oper.wp at *
  generalize (execOp a.eval o).run P w = r at *
  cases r with
  | ok n w' =>
    cases n <;> simp only [Oper.upon] at hh ⊢ <;>
      first
        | exact h _ _ hh
        | exact Calls.mono hh (fun e w'' he => by cases e <;> first | exact h _ _ he | exact he)
        | exact Rows.mono hh (fun _ _ he => h _ _ he)
  | halt x w' => cases x <;> simp only [Oper.upon] at hh ⊢ <;> exact hh

/-- Operation number i. -/
def pick : List Oper → Nat → Oper
  | o :: _, 0 => o
  | _ :: l, n + 1 => pick l n
  | [], _ => default
def picks (l : List Oper) : List Nat → List Oper
  | [] => []
  | i :: r => pick l i :: picks l r
theorem pick_get : ∀ {l : List Oper} {i : Nat}, i < l.length → l[i]? = some (pick l i)
  | [], i, h => by simp at h
  | o :: l, 0, _ => rfl
  | o :: l, n + 1, h => by
    have := pick_get (l := l) (i := n) (by simpa using h)
    show (o :: l)[n + 1]? = some (pick l n)
    simpa using this

/-- The walk: what only reads, in each stretch in the order given; then what comes up alone. -/
def wpSegs (P : Program) (l : List Oper) (Q : Exit → Act → World → Prop) : List (List Nat × Option Nat) → Act → World → Prop
  | [], a, w => Q .normal a w
  | (is, none) :: r, a, w => wpQuiet P l.toArray (fun w' => ∃ n : GW w, w' = n.w) (fun a' => wpSegs P l Q r a' w) (picks l is) a
  | (is, some k) :: r, a, w => wpQuiet P l.toArray (fun w' => ∃ n : GW w, w' = n.w) (fun a' => wpList P l.toArray (EvQ (fun w' => Below w.heap.size w w') (wpSegs P l Q r) Q) [pick l k] a' w) (picks l is) a

def quietB (md : Region.Mode) (l : List Oper) : List Nat → Array Bool → Option (Array Bool)
  | [], b => some b
  | i :: r, b => if decide (i < l.length) && qk (pick l i) && Region.free md l.toArray b i && (Region.ready md l.toArray b).contains i then quietB md l r (b.setIfInBounds i true) else none
def segB (md : Region.Mode) (l : List Oper) : List (List Nat × Option Nat) → Array Bool → Bool
  | [], b => Region.ready md l.toArray b == []
  | (is, none) :: r, b => match quietB md l is b with
    | some b' => segB md l r b'
    | none => false
  | (is, some k) :: r, b => match quietB md l is b with
    | some b' => decide (k < l.length) && (Region.ready md l.toArray b' == [k]) && segB md l r (b'.setIfInBounds k true)
    | none => false
def segN : List (List Nat × Option Nat) → Nat
  | [] => 0
  | (is, none) :: r => is.length + segN r
  | (is, some _) :: r => is.length + (segN r + 1)

section
variable {P : Program} {l : List Oper} {Q : Exit → Act → World → Prop} {md : Region.Mode}
theorem held_mono {S S' : World → Prop} (h : ∀ w, S' w → S w) : ∀ (fuel : Nat) (b : Array Bool) (a : Act) (w : World), wpAnyH P md l.toArray Q S' fuel b a w → wpAnyH P md l.toArray Q S fuel b a w
  | 0, _, _, _, hh => hh
  | fuel + 1, _, _, _, hh => ⟨hh.1, fun i hi => wpOp_mono (fun a' w' h' => ⟨h _ h'.1, held_mono h fuel _ a' w' h'.2⟩) (hh.2 i hi)⟩

theorem quiet_sound (hs : Region.noSelect l.toArray = true) (hQ : ∀ c a d v w, Q (.panic c) (a.put d v) w → Q (.panic c) a w) {w : World} {K : Act → Prop} {n : Nat} :
    ∀ (is : List Nat) (b b' : Array Bool) (a : Act), quietB md l is b = some b' → (∀ a', K a' → wpAnyH P md l.toArray Q (InG w) n b' a' w) → wpQuiet P l.toArray (InG w) K (picks l is) a → wpAnyH P md l.toArray Q (InG w) (is.length + n) b a w
  | [], b, b', a, hb, hk, h => by
    injection hb with hb
    subst hb
    rw [List.length_nil, Nat.zero_add]
    exact hk a h
  | i :: r, b, b', a, hb, hk, h => by
    unfold quietB at hb
    split at hb
    · rename_i hc
      simp only [Bool.and_eq_true, decide_eq_true_eq] at hc
      obtain ⟨⟨⟨h1, h2⟩, h3⟩, h4⟩ := hc
      have hi : l.toArray[i]? = some (pick l i) := by simpa using pick_get h1
      rw [List.length_cons, show r.length + 1 + n = (r.length + n) + 1 from by omega]
      have h' : if Region.wanted (pick l i) (yielded l.toArray a.tmps) then (pick l i).quiet P a (InG w) (wpQuiet P l.toArray (InG w) K (picks l r)) else wpQuiet P l.toArray (InG w) K (picks l r) (a.put (pick l i).dst undef) := h
      by_cases hw : Region.wanted (pick l i) (yielded l.toArray a.tmps) = true
      · rw [if_pos hw] at h'
        obtain ⟨v, hv, hn⟩ := h'
        exact wpAnyH_take hi hs h3 h4 (fun c a w => hQ c a _ _ w) (.inl ⟨hw, fun w' hw' => run_of_quietAt h2 (hv w' hw')⟩) (InG.self w) (quiet_sound hs hQ r _ b' _ hb hk hn)
      · rw [if_neg hw] at h'
        exact wpAnyH_take hi hs h3 h4 (fun c a w => hQ c a _ _ w) (.inr ⟨by simpa using hw, rfl⟩) (InG.self w) (quiet_sound hs hQ r _ b' _ hb hk h')
    · cases hb

theorem segs_sound (hs : Region.noSelect l.toArray = true) (hQ : ∀ c a d v w, Q (.panic c) (a.put d v) w → Q (.panic c) a w) :
    ∀ (segs : List (List Nat × Option Nat)) (b : Array Bool) (a : Act) (w : World), segB md l segs b = true → wpSegs P l Q segs a w → wpAnyH P md l.toArray Q (InG w) (segN segs) b a w
  | [], b, a, w, hb, h => ⟨by simpa [segB] using hb, h⟩
  | (is, none) :: r, b, a, w, hb, h => by
    unfold segB at hb
    split at hb
    · rename_i b' hq
      exact quiet_sound hs hQ is b b' a hq (fun a' ha' => segs_sound hs hQ r b' a' w hb ha') h
    · cases hb
  | (is, some k) :: r, b, a, w, hb, h => by
    unfold segB at hb
    split at hb
    · rename_i b' hq
      simp only [Bool.and_eq_true, decide_eq_true_eq, beq_iff_eq] at hb
      obtain ⟨⟨h1, h2⟩, h3⟩ := hb
      refine quiet_sound (n := segN r + 1) hs hQ is b b' a hq (fun a' ha' => ?_) h
      refine wpAnyH_all h2 (by simp) (fun i hi => ?_)
      obtain rfl : i = k := by simpa using hi
      have hi' : l.toArray[i]? = some (pick l i) := by simpa using pick_get h1
      have key : ∀ a'' w'', (Below w.heap.size w w'' ∧ wpSegs P l Q r a'' w'') → InG w w'' ∧ wpAnyH P md l.toArray Q (InG w) (segN r) (b'.setIfInBounds i true) a'' w'' := fun a'' w'' hh =>
        ⟨⟨⟨w'', hh.1⟩, rfl⟩, held_mono (fun _ hw' => InG.mono hh.1 hw') _ _ _ _ (segs_sound hs hQ r _ a'' w'' h3 hh.2)⟩
      unfold wpOp
      simp only [hi']
      simp only [wpList] at ha'
      by_cases hw : Region.wanted (pick l i) (yielded l.toArray a'.tmps) = true
      · rw [if_pos hw] at ha' ⊢
        rcases ha' with ha' | ⟨h4, h5⟩
        · exact .inl (ev_wp (fun a'' w'' hh => key a'' w'' hh) ha')
        · exact .inr ⟨h4, ev_lets h5⟩
      · rw [if_neg hw] at ha' ⊢
        exact key _ _ ha'
    · cases hb

/-- A REGION THAT DRAWS ITS ORDER, by its stretches. -/
theorem wp_region_segs {id : Nat} {a : Act} {w : World} (segs : List (List Nat × Option Nat)) (hm : P.follows .mixedOrders = true) (hs : Region.noSelect l.toArray = true)
    (hb : segB .any l segs (Array.replicate l.length false) = true) (hn : segN segs = l.length)
    (h : wpSegs P l (NoPanic Q) segs a w.drew) : (Code.region id l.toArray true).wp P Q a w := by
  refine wp_region_noPanic (wp_region_held (S := InG w.drew) hm ?_)
  have := segs_sound hs (Q := NoPanic Q) (fun _ _ _ _ _ h => h) segs _ a w.drew hb h
  rw [hn] at this
  simpa using this
end
end Go.Proofs.Ytigbmbmngkmdlaa.Q
