/-
  A region that draws its order: two operations that do more than read may be ready at once.
-/
import Derived.Test.YtagfplcafeblbaaQ
namespace Go.Proofs.Ytagfplcafeblbaa.Q
open Go

/-- The walk: what only reads; then what comes up alone, or one of two. -/
inductive Tr where
  | done (is : List Nat)
  | ev (is : List Nat) (k : Nat) (t : Tr)
  | two (is : List Nat) (k1 : Nat) (t1 : Tr) (k2 : Nat) (t2 : Tr)

def wpTr (P : Program) (l : List Oper) (Q : Exit → Act → World → Prop) : Tr → Nat → Option Nat → Act → World → Prop
  | .done is, B, row, a, w => wpQuiet P l.toArray (fun w' => ∃ n : GW w B row, w' = n.w) (fun a' => Q .normal a' w) (picks l is) a
  | .ev is k t, B, row, a, w => wpQuiet P l.toArray (fun w' => ∃ n : GW w B row, w' = n.w) (fun a' => wpList P l.toArray (EvQ (Gr B row w) (Goes (wpTr P l Q t) B row) Q) [pick l k] a' w) (picks l is) a
  | .two is k1 t1 k2 t2, B, row, a, w => wpQuiet P l.toArray (fun w' => ∃ n : GW w B row, w' = n.w) (fun a' => wpList P l.toArray (EvQ (Gr B row w) (Goes (wpTr P l Q t1) B row) Q) [pick l k1] a' w ∧ wpList P l.toArray (EvQ (Gr B row w) (Goes (wpTr P l Q t2) B row) Q) [pick l k2] a' w) (picks l is) a

def trB (md : Region.Mode) (l : List Oper) : Tr → Array Bool → Bool
  | .done is, b => match quietB md l is b with
    | some b' => Region.ready md l.toArray b' == []
    | none => false
  | .ev is k t, b => match quietB md l is b with
    | some b' => decide (k < l.length) && (Region.ready md l.toArray b' == [k]) && trB md l t (b'.setIfInBounds k true)
    | none => false
  | .two is k1 t1 k2 t2, b => match quietB md l is b with
    | some b' => (decide (k1 < l.length) && decide (k2 < l.length) && (Region.ready md l.toArray b' == [k1, k2])) && (trB md l t1 (b'.setIfInBounds k1 true) && trB md l t2 (b'.setIfInBounds k2 true))
    | none => false
/-- how many operations: the same on every way -/
def trN : Tr → Option Nat
  | .done is => some is.length
  | .ev is _ t => (trN t).map (fun n => is.length + (n + 1))
  | .two is _ t1 _ t2 => match trN t1, trN t2 with
    | some n1, some n2 => if n1 = n2 then some (is.length + (n1 + 1)) else none
    | _, _ => none

section
variable {P : Program} {l : List Oper} {Q : Exit → Act → World → Prop} {md : Region.Mode}
theorem ev_sound {n : Nat} {B : Nat} {row : Option Nat} {b : Array Bool} {a : Act} {w : World} {t : Tr} {k : Nat} (h1 : k < l.length)
    (ih : ∀ (B : Nat) (row : Option Nat) (a : Act) (w : World), wpTr P l Q t B row a w → wpAnyH P md l.toArray Q (InG w B row) n (b.setIfInBounds k true) a w)
    (ha : wpList P l.toArray (EvQ (Gr B row w) (Goes (wpTr P l Q t) B row) Q) [pick l k] a w) :
    wpOp P l.toArray Q k (fun a' w' => InG w B row w' ∧ wpAnyH P md l.toArray Q (InG w B row) n (b.setIfInBounds k true) a' w') a w := by
  have hi' : l.toArray[k]? = some (pick l k) := by simpa using pick_get h1
  have key : ∀ a'' w'', (Gr B row w w'' ∧ ∃ B' row', B ≤ B' ∧ NewRow B row row' ∧ wpTr P l Q t B' row' a'' w'') → InG w B row w'' ∧ wpAnyH P md l.toArray Q (InG w B row) n (b.setIfInBounds k true) a'' w'' := fun a'' w'' hh => by
    obtain ⟨hg, B', row', hBB, hr, hh⟩ := hh
    exact ⟨⟨⟨w'', hg⟩, rfl⟩, held_mono (fun _ hw' => InG.mono hg hBB hr hw') _ _ _ _ (ih B' row' a'' w'' hh)⟩
  unfold wpOp
  simp only [hi']
  simp only [wpList] at ha
  by_cases hw : Region.wanted (pick l k) (yielded l.toArray a.tmps) = true
  · rw [if_pos hw] at ha ⊢
    rcases ha with ha | ⟨h4, h5⟩
    · exact .inl (ev_wp (fun a'' w'' hh => key a'' w'' hh) ha)
    · exact .inr ⟨h4, ev_lets h5⟩
  · rw [if_neg hw] at ha ⊢
    exact key _ _ ha

theorem tr_sound (hs : Region.noSelect l.toArray = true) (hQ : ∀ c a d v w, Q (.panic c) (a.put d v) w → Q (.panic c) a w) :
    ∀ (t : Tr) (n : Nat), trN t = some n → ∀ (B : Nat) (row : Option Nat) (b : Array Bool) (a : Act) (w : World), trB md l t b = true → wpTr P l Q t B row a w → wpAnyH P md l.toArray Q (InG w B row) n b a w
  | .done is, n, hn, B, row, b, a, w, hb, h => by
    injection hn with hn
    subst hn
    unfold trB at hb
    split at hb
    · rename_i b' hq
      exact quiet_sound (n := 0) hs hQ is b b' a hq (fun a' ha' => ⟨by simpa using hb, ha'⟩) h
    · cases hb
  | .ev is k t, n, hn, B, row, b, a, w, hb, h => by
    unfold trN at hn
    obtain ⟨n0, h0, hn⟩ := Option.map_eq_some_iff.1 hn
    subst hn
    unfold trB at hb
    split at hb
    · rename_i b' hq
      simp only [Bool.and_eq_true, decide_eq_true_eq, beq_iff_eq] at hb
      obtain ⟨⟨h1, h2⟩, h3⟩ := hb
      refine quiet_sound (n := n0 + 1) hs hQ is b b' a hq (fun a' ha' => ?_) h
      refine wpAnyH_all h2 (by simp) (fun i hi => ?_)
      obtain rfl : i = k := by simpa using hi
      exact ev_sound h1 (fun B row a w hh => tr_sound hs hQ t n0 h0 B row _ a w h3 hh) ha'
    · cases hb
  | .two is k1 t1 k2 t2, n, hn, B, row, b, a, w, hb, h => by
    unfold trN at hn
    split at hn
    · rename_i n1 n2 e1 e2
      split at hn
      · rename_i e
        subst e
        injection hn with hn
        subst hn
        unfold trB at hb
        split at hb
        · rename_i b' hq
          simp only [Bool.and_eq_true, decide_eq_true_eq, beq_iff_eq] at hb
          obtain ⟨⟨⟨h1, h1'⟩, h2⟩, h3, h3'⟩ := hb
          refine quiet_sound (n := n1 + 1) hs hQ is b b' a hq (fun a' ha' => ?_) h
          refine wpAnyH_all h2 (by simp) (fun i hi => ?_)
          have hi2 : i = k1 ∨ i = k2 := by simpa using hi
          rcases hi2 with rfl | rfl
          · exact ev_sound h1 (fun B row a w hh => tr_sound hs hQ t1 n1 e1 B row _ a w h3 hh) ha'.1
          · exact ev_sound h1' (fun B row a w hh => tr_sound hs hQ t2 n1 e2 B row _ a w h3' hh) ha'.2
        · cases hb
      · cases hn
    · cases hn

/-- A REGION THAT DRAWS ITS ORDER, by its tree. -/
theorem wp_region_tr {id : Nat} {a : Act} {w : World} (row : Option Nat) (t : Tr) (hm : P.follows .mixedOrders = true) (hs : Region.noSelect l.toArray = true)
    (hb : trB .any l t (Array.replicate l.length false) = true) (hn : trN t = some l.length)
    (h : wpTr P l (NoPanic Q) t w.heap.size row a w.drew) : (Code.region id l.toArray true).wp P Q a w := by
  refine wp_region_noPanic (wp_region_held (S := InG w.drew w.heap.size row) hm ?_)
  have := tr_sound hs (Q := NoPanic Q) (fun _ _ _ _ _ h => h) t _ hn w.heap.size row _ a w.drew hb h
  simpa using this
end
end Go.Proofs.Ytagfplcafeblbaa.Q
