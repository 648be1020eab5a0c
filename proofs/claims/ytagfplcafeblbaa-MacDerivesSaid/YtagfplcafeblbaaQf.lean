/-
  A region that draws its order, walked once, whose last operation comes up behind all others and may write whatever it likes.
-/
import Derived.Test.YtagfplcafeblbaaQ
import Derived.StillTail
namespace Go.Proofs.Ytagfplcafeblbaa.Q
open Go.RowKit Go.Proofs.Ytagfplcafeblbaa.L Go.Proofs.YtagfplcafeblbaaW.PrintWords

section
variable {P : Program} {ops : Array Oper} {Q : Exit → Act → World → Prop} {md : Region.Mode} {S : World → Prop} {k : Nat}
/-- What has come up came behind all that it waits for. -/
def Cl (md : Region.Mode) (ops : Array Oper) (listed : Array Bool) : Prop := ∀ j oj, ops[j]? = some oj → listed.getD j false = true → ∀ e ∈ oj.after, Region.binds md e = true → listed.getD e.on false = true
theorem Cl.set {i : Nat} {listed : Array Bool} (h : Cl md ops listed) (hi : i ∈ Region.ready md ops listed) : Cl md ops (listed.setIfInBounds i true) := by
  obtain ⟨_, oi, hoi, hall⟩ := mem_ready.1 hi
  intro j oj hj hl e he hb
  by_cases hij : i = j
  · subst hij
    have : oj = oi := Option.some.inj (hj.symm.trans hoi)
    subst this
    exact getD_set_true (hall e he hb)
  · rw [getD_set_ne false hij] at hl
    exact getD_set_true (h j oj hj hl e he hb)
/-- Number k waits for number i, through others. -/
def wt (md : Region.Mode) (ops : Array Oper) : Nat → Nat → Nat → Bool
  | 0, _, _ => false
  | f + 1, k, i => match ops[k]? with
    | some o => o.after.any fun e => Region.binds md e && (e.on == i || wt md ops f e.on i)
    | none => false
theorem wt_listed {i : Nat} {listed : Array Bool} (hc : Cl md ops listed) : ∀ (f k : Nat), (∀ o, ops[k]? = some o → ∀ e ∈ o.after, Region.binds md e = true → listed.getD e.on false = true) → wt md ops f k i = true → listed.getD i false = true
  | 0, _, _, h => by cases h
  | f + 1, k, hk, h => by
    unfold wt at h
    split at h
    · rename_i o ho
      obtain ⟨e, he, h1⟩ := Array.any_eq_true'.1 h
      simp only [Bool.and_eq_true, Bool.or_eq_true, beq_iff_eq] at h1
      have hl := hk o ho e he h1.1
      rcases h1.2 with h2 | h2
      · rw [← h2]; exact hl
      · exact wt_listed hc f e.on (fun o' ho' e' he' hb' => hc e.on o' ho' hl e' he' hb') h2
    · cases h
def wpAnyK (P : Program) (md : Region.Mode) (ops : Array Oper) (Q : Exit → Act → World → Prop) (S : World → Prop) (k : Nat) : Nat → Array Bool → Act → World → Prop
  | 0, listed, a, w => Region.ready md ops listed = [k] ∧ Region.ready md ops (listed.setIfInBounds k true) = [] ∧ wpOp P ops Q k (fun a' w' => Q .normal a' w') a w
  | fuel + 1, listed, a, w => Region.ready md ops listed ≠ [] ∧ ∀ i ∈ Region.ready md ops listed, wpOp P ops Q i (fun a' w' => S w' ∧ wpAnyK P md ops Q S k fuel (listed.setIfInBounds i true) a' w') a w
theorem wpAny_of_K : ∀ (fuel : Nat) (listed : Array Bool) (a : Act) (w : World), wpAnyK P md ops Q S k fuel listed a w → wpAny P md ops Q (fuel + 1) listed a w
  | 0, listed, a, w, h => ⟨fun h0 => (by rw [h.1] at h0; cases h0), fun i hi => by
      rw [h.1] at hi
      obtain rfl : i = k := by simpa using hi
      exact wpOp_mono (fun a' w' h' => ⟨h.2.1, h'⟩) h.2.2⟩
  | fuel + 1, listed, a, w, h => ⟨fun h0 => absurd h0 h.1, fun i hi => wpOp_mono (fun a' w' h' => wpAny_of_K fuel _ a' w' h'.2) (h.2 i hi)⟩
theorem anyK_first {i f : Nat} {oi : Oper} {v : Value} (hi : ops[i]? = some oi) (hsel : ∀ (j : Nat) (o : Oper) cs b, ops[j]? = some o → o.op ≠ .select cs b)
    (hQ : ∀ c a w, Q (.panic c) (a.put oi.dst v) w → Q (.panic c) a w) (hkw : wt md ops f k i = true) :
    ∀ (fuel : Nat) (listed : Array Bool) (a : Act) (w : World), Cl md ops listed →
      (∀ j oj, ops[j]? = some oj → j ≠ i → listed.getD j true = false → (∀ e ∈ oj.after, Region.binds md e = true → e.on ≠ i) → oi.apart ops oj = true) →
      i ∈ Region.ready md ops listed → YieldsIf P ops S oi v a → S w →
      wpAnyK P md ops Q S k fuel (listed.setIfInBounds i true) (a.put oi.dst v) w → wpAnyK P md ops Q S k (fuel + 1) listed a w := by
  intro fuel
  induction fuel with
  | zero =>
    intro listed a w hc _ hr hy hS H
    refine ⟨fun h => (by rw [h] at hr; cases hr), fun j hj => ?_⟩
    by_cases hji : j = i
    · subst hji; exact hy.wpOp hi hS ⟨hS, H⟩
    · have h1 := ready_mono hj hji
      rw [H.1] at h1
      obtain rfl : j = k := by simpa using h1
      obtain ⟨_, oj, hoj, hall⟩ := mem_ready.1 hj
      have h2 := wt_listed hc f j (fun o ho e he hb => by
        have : o = oj := Option.some.inj (ho.symm.trans hoj)
        subst this
        exact hall e he hb) hkw
      have h3 := getD_both (mem_ready.1 hr).1
      rw [h2] at h3
      cases h3
  | succ fuel ih =>
    intro listed a w hc hfree hr hy hS H
    refine ⟨fun h => (by rw [h] at hr; cases hr), fun j hj => ?_⟩
    by_cases hji : j = i
    · subst hji; exact hy.wpOp hi hS ⟨hS, H⟩
    · have h1 := H.2 j (ready_mono hj hji)
      obtain ⟨hjun, oj, hoj, hall⟩ := mem_ready.1 hj
      have hun := getD_both (mem_ready.1 hr).1
      have hnot : ∀ e ∈ oj.after, Region.binds md e = true → e.on ≠ i := fun e he hb heq => by
        have h1 := hall e he hb
        rw [heq, hun] at h1
        cases h1
      have h2 := wpOp_putIf hoj (hfree j oj hoj hji hjun hnot) (fun cs b => hsel i oi cs b hi) (fun cs b => hsel j oj cs b hoj) hQ hy h1
      have hfree' : ∀ m ok, ops[m]? = some ok → m ≠ i → (listed.setIfInBounds j true).getD m true = false → (∀ e ∈ ok.after, Region.binds md e = true → e.on ≠ i) → oi.apart ops ok = true := fun m ok hm hmi hun' hno => by
        refine hfree m ok hm hmi ?_ hno
        by_cases hjm : j = m
        · subst hjm; exact hjun
        · rw [getD_set_ne true hjm] at hun'; exact hun'
      refine wpOp_mono (fun a' w' h3 => ⟨h3.2.1, ih (listed.setIfInBounds j true) a' w' (hc.set hj) hfree' (ready_mono hr (Ne.symm hji)) h3.1 h3.2.1 ?_⟩) h2
      rw [Array.setIfInBounds_comm _ _ hji]
      exact h3.2.2
theorem heldK_mono {S S' : World → Prop} (h : ∀ w, S' w → S w) : ∀ (fuel : Nat) (b : Array Bool) (a : Act) (w : World), wpAnyK P md ops Q S' k fuel b a w → wpAnyK P md ops Q S k fuel b a w
  | 0, _, _, _, hh => hh
  | fuel + 1, _, _, _, hh => ⟨hh.1, fun i hi => wpOp_mono (fun a' w' h' => ⟨h _ h'.1, heldK_mono h fuel _ a' w' h'.2⟩) (hh.2 i hi)⟩
end

def wpSegsF (P : Program) (l : List Oper) (Q : Exit → Act → World → Prop) (js : List Nat) (k : Nat) : List (List Nat × Option Nat) → Nat → Option Nat → Act → World → Prop
  | [], B, row, a, w => wpQuiet P l.toArray (fun w' => ∃ n : GW w B row, w' = n.w) (fun a' => wpList P l.toArray Q [pick l k] a' w) (picks l js) a
  | (is, none) :: r, B, row, a, w => wpQuiet P l.toArray (fun w' => ∃ n : GW w B row, w' = n.w) (fun a' => wpSegsF P l Q js k r B row a' w) (picks l is) a
  | (is, some j) :: r, B, row, a, w => wpQuiet P l.toArray (fun w' => ∃ n : GW w B row, w' = n.w) (fun a' => wpList P l.toArray (EvQ (Gr B row w) (Goes (wpSegsF P l Q js k r) B row) Q) [pick l j] a' w) (picks l is) a
def quietBF (md : Region.Mode) (l : List Oper) (k : Nat) : List Nat → Array Bool → Option (Array Bool)
  | [], b => some b
  | i :: r, b => if decide (i < l.length) && qk (pick l i) && Region.free md l.toArray b i && (Region.ready md l.toArray b).contains i && wt md l.toArray l.length k i then quietBF md l k r (b.setIfInBounds i true) else none
def segBF (md : Region.Mode) (l : List Oper) (js : List Nat) (k : Nat) : List (List Nat × Option Nat) → Array Bool → Bool
  | [], b => match quietBF md l k js b with
    | some b' => decide (k < l.length) && (Region.ready md l.toArray b' == [k]) && (Region.ready md l.toArray (b'.setIfInBounds k true) == [])
    | none => false
  | (is, none) :: r, b => match quietBF md l k is b with
    | some b' => segBF md l js k r b'
    | none => false
  | (is, some j) :: r, b => match quietBF md l k is b with
    | some b' => decide (j < l.length) && (Region.ready md l.toArray b' == [j]) && segBF md l js k r (b'.setIfInBounds j true)
    | none => false

section
variable {P : Program} {l : List Oper} {Q : Exit → Act → World → Prop} {md : Region.Mode} {k : Nat}
theorem quiet_soundF (hs : Region.noSelect l.toArray = true) (hQ : ∀ c a d v w, Q (.panic c) (a.put d v) w → Q (.panic c) a w) {w : World} {B : Nat} {row : Option Nat} {K : Act → Prop} {n : Nat} :
    ∀ (is : List Nat) (b b' : Array Bool) (a : Act), Cl md l.toArray b → quietBF md l k is b = some b' → (∀ a', Cl md l.toArray b' → K a' → wpAnyK P md l.toArray Q (InG w B row) k n b' a' w) → wpQuiet P l.toArray (InG w B row) K (picks l is) a → wpAnyK P md l.toArray Q (InG w B row) k (is.length + n) b a w
  | [], b, b', a, hc, hb, hk, h => by
    injection hb with hb
    subst hb
    rw [List.length_nil, Nat.zero_add]
    exact hk a hc h
  | i :: r, b, b', a, hcl, hb, hk, h => by
    unfold quietBF at hb
    split at hb
    · rename_i hc
      simp only [Bool.and_eq_true, decide_eq_true_eq] at hc
      obtain ⟨⟨⟨⟨h1, h2⟩, h3⟩, h4⟩, h5⟩ := hc
      have hi : l.toArray[i]? = some (pick l i) := by simpa using pick_get h1
      have h4' : i ∈ Region.ready md l.toArray b := by simpa using h4
      rw [List.length_cons, show r.length + 1 + n = (r.length + n) + 1 from by omega]
      have h' : if Region.wanted (pick l i) (yielded l.toArray a.tmps) then (pick l i).quiet P a (InG w B row) (wpQuiet P l.toArray (InG w B row) K (picks l r)) else wpQuiet P l.toArray (InG w B row) K (picks l r) (a.put (pick l i).dst undef) := h
      have hcl' := hcl.set h4'
      by_cases hw : Region.wanted (pick l i) (yielded l.toArray a.tmps) = true
      · rw [if_pos hw] at h'
        obtain ⟨v, hv, hn⟩ := h'
        exact anyK_first hi (Region.noSelect_spec hs) (fun c a w => hQ c a _ _ w) h5 _ _ _ _ hcl (Region.free_spec hi h3) h4' (.inl ⟨hw, fun w' hw' => run_of_quietAt h2 (hv w' hw')⟩) (InG.self w B row) (quiet_soundF hs hQ r _ b' _ hcl' hb hk hn)
      · rw [if_neg hw] at h'
        exact anyK_first hi (Region.noSelect_spec hs) (fun c a w => hQ c a _ _ w) h5 _ _ _ _ hcl (Region.free_spec hi h3) h4' (.inr ⟨by simpa using hw, rfl⟩) (InG.self w B row) (quiet_soundF hs hQ r _ b' _ hcl' hb hk h')
    · cases hb
theorem segs_soundF (hs : Region.noSelect l.toArray = true) (hQ : ∀ c a d v w, Q (.panic c) (a.put d v) w → Q (.panic c) a w) (js : List Nat) :
    ∀ (segs : List (List Nat × Option Nat)) (B : Nat) (row : Option Nat) (b : Array Bool) (a : Act) (w : World), Cl md l.toArray b → segBF md l js k segs b = true → wpSegsF P l Q js k segs B row a w → wpAnyK P md l.toArray Q (InG w B row) k (segN segs + js.length) b a w
  | [], B, row, b, a, w, hcl, hb, h => by
    unfold segBF at hb
    split at hb
    · rename_i b' hq
      simp only [Bool.and_eq_true, decide_eq_true_eq, beq_iff_eq] at hb
      obtain ⟨⟨h1, h2⟩, h3⟩ := hb
      have hk : l.toArray[k]? = some (pick l k) := by simpa using pick_get h1
      rw [show segN [] + js.length = js.length + 0 from by simp [segN]]
      refine quiet_soundF (n := 0) hs hQ js b b' a hcl hq (fun a' _ ha' => ⟨h2, h3, ?_⟩) h
      unfold wpOp
      simp only [hk]
      simp only [wpList] at ha'
      by_cases hw : Region.wanted (pick l k) (yielded l.toArray a'.tmps) = true
      · rw [if_pos hw] at ha' ⊢
        exact ha'
      · rw [if_neg hw] at ha' ⊢
        exact ha'
    · cases hb
  | (is, none) :: r, B, row, b, a, w, hcl, hb, h => by
    unfold segBF at hb
    split at hb
    · rename_i b' hq
      rw [show segN ((is, none) :: r) + js.length = is.length + (segN r + js.length) from by simp only [segN]; omega]
      exact quiet_soundF hs hQ is b b' a hcl hq (fun a' hcl' ha' => segs_soundF hs hQ js r B row b' a' w hcl' hb ha') h
    · cases hb
  | (is, some j) :: r, B, row, b, a, w, hcl, hb, h => by
    unfold segBF at hb
    split at hb
    · rename_i b' hq
      simp only [Bool.and_eq_true, decide_eq_true_eq, beq_iff_eq] at hb
      obtain ⟨⟨h1, h2⟩, h3⟩ := hb
      rw [show segN ((is, some j) :: r) + js.length = is.length + ((segN r + js.length) + 1) from by simp only [segN]; omega]
      refine quiet_soundF (n := (segN r + js.length) + 1) hs hQ is b b' a hcl hq (fun a' hcl' ha' => ?_) h
      refine ⟨by rw [h2]; simp, fun i hi => ?_⟩
      have hir := hi
      rw [h2] at hi
      obtain rfl : i = j := by simpa using hi
      have hi' : l.toArray[i]? = some (pick l i) := by simpa using pick_get h1
      have key : ∀ a'' w'', (Gr B row w w'' ∧ ∃ B' row', B ≤ B' ∧ NewRow B row row' ∧ wpSegsF P l Q js k r B' row' a'' w'') → InG w B row w'' ∧ wpAnyK P md l.toArray Q (InG w B row) k (segN r + js.length) (b'.setIfInBounds i true) a'' w'' := fun a'' w'' hh => by
        obtain ⟨hg, B', row', hBB, hr, hh⟩ := hh
        exact ⟨⟨⟨w'', hg⟩, rfl⟩, heldK_mono (fun _ hw' => InG.mono hg hBB hr hw') _ _ _ _ (segs_soundF hs hQ js r B' row' _ a'' w'' (hcl'.set hir) h3 hh)⟩
      unfold wpOp
      simp only [hi']
      simp only [wpList] at ha'
      by_cases hw : Region.wanted (pick l i) (yielded l.toArray a'.tmps) = true
      · rw [if_pos hw] at ha' ⊢
        rcases ha' with ha' | ⟨h4, h5⟩
        · exact .inl (ev_wp (fun a'' w'' hh => key a'' w'' hh) ha')
        · exact .inr ⟨h4, ev_lets h5⟩
      · rw [if_neg hw] at ha' ⊢
        exact key _ _ ha'
    · cases hb

/-- A REGION THAT DRAWS ITS ORDER, by its stretches; number k comes last, behind 'js'. -/
theorem wp_region_segsF {id : Nat} {a : Act} {w : World} (row : Option Nat) (segs : List (List Nat × Option Nat)) (js : List Nat) (k : Nat) (hm : P.follows .mixedOrders = true) (hs : Region.noSelect l.toArray = true)
    (hb : segBF .any l js k segs (Array.replicate l.length false) = true) (hn : segN segs + js.length + 1 = l.length)
    (h : wpSegsF P l (NoPanic Q) js k segs w.heap.size row a w.drew) : (Code.region id l.toArray true).wp P Q a w := by
  refine wp_region_noPanic (wp_region_any hm ?_)
  have hc : Cl .any l.toArray (Array.replicate l.length false) := fun j oj _ hl => by rw [getD_replicate_false] at hl; cases hl
  have := wpAny_of_K _ _ _ _ (segs_soundF hs (Q := NoPanic Q) (fun _ _ _ _ _ h => h) js segs w.heap.size row _ a w.drew hc hb h)
  rw [hn] at this
  simpa using this
end
end Go.Proofs.Ytagfplcafeblbaa.Q
