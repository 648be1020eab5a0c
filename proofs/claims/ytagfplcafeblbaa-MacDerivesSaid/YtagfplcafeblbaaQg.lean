/-
  A region that draws its order, walked once, whose last operations come up one by one behind all others and may write whatever they like.
-/
import Derived.Test.YtagfplcafeblbaaQf
namespace Go.Proofs.Ytagfplcafeblbaa.Q
open Go.RowKit Go.Proofs.Ytagfplcafeblbaa.L Go.Proofs.YtagfplcafeblbaaW.PrintWords

section
variable {P : Program} {ops : Array Oper} {Q : Exit → Act → World → Prop} {md : Region.Mode} {S : World → Prop} {k m : Nat}
def wpAnyG (P : Program) (md : Region.Mode) (ops : Array Oper) (Q : Exit → Act → World → Prop) (S : World → Prop) (k m : Nat) : Nat → Array Bool → Act → World → Prop
  | 0, listed, a, w => Region.ready md ops listed = [k] ∧ wpOp P ops Q k (fun a' w' => wpAny P md ops Q m (listed.setIfInBounds k true) a' w') a w
  | fuel + 1, listed, a, w => Region.ready md ops listed ≠ [] ∧ ∀ i ∈ Region.ready md ops listed, wpOp P ops Q i (fun a' w' => S w' ∧ wpAnyG P md ops Q S k m fuel (listed.setIfInBounds i true) a' w') a w
theorem wpAny_of_G : ∀ (fuel : Nat) (listed : Array Bool) (a : Act) (w : World), wpAnyG P md ops Q S k m fuel listed a w → wpAny P md ops Q (fuel + 1 + m) listed a w
  | 0, listed, a, w, h => by
      rw [show 0 + 1 + m = m + 1 from by omega]
      exact ⟨fun h0 => (by rw [h.1] at h0; cases h0), fun i hi => by
        rw [h.1] at hi
        obtain rfl : i = k := by simpa using hi
        exact h.2⟩
  | fuel + 1, listed, a, w, h => by
    rw [show fuel + 1 + 1 + m = (fuel + 1 + m) + 1 from by omega]
    exact ⟨fun h0 => absurd h0 h.1, fun i hi => wpOp_mono (fun a' w' h' => wpAny_of_G fuel _ a' w' h'.2) (h.2 i hi)⟩
theorem anyG_first {i f : Nat} {oi : Oper} {v : Value} (hi : ops[i]? = some oi) (hsel : ∀ (j : Nat) (o : Oper) cs b, ops[j]? = some o → o.op ≠ .select cs b)
    (hQ : ∀ c a w, Q (.panic c) (a.put oi.dst v) w → Q (.panic c) a w) (hkw : wt md ops f k i = true) :
    ∀ (fuel : Nat) (listed : Array Bool) (a : Act) (w : World), Cl md ops listed →
      (∀ j oj, ops[j]? = some oj → j ≠ i → listed.getD j true = false → (∀ e ∈ oj.after, Region.binds md e = true → e.on ≠ i) → oi.apart ops oj = true) →
      i ∈ Region.ready md ops listed → YieldsIf P ops S oi v a → S w →
      wpAnyG P md ops Q S k m fuel (listed.setIfInBounds i true) (a.put oi.dst v) w → wpAnyG P md ops Q S k m (fuel + 1) listed a w := by
  intro fuel
  induction fuel with
  | zero =>
    intro listed a w hc _ hr hy hS H
    refine ⟨fun h => (by rw [h] at hr; cases hr), fun j hj => ?_⟩
    by_cases hji : j = i
    · subst hji; exact hy.wpOp hi hS ⟨hS, H⟩
    · have h1 := ready_mono hj hji
      rw [H.1] at h1
      obtain rfl : j = k := by simpa using h1
      obtain ⟨_, oj, hoj, hall⟩ := mem_ready.1 hj
      have h2 := wt_listed hc f j (fun o ho e he hb => by
        have : o = oj := Option.some.inj (ho.symm.trans hoj)
        subst this
        exact hall e he hb) hkw
      have h3 := getD_both (mem_ready.1 hr).1
      rw [h2] at h3
      cases h3
  | succ fuel ih =>
    intro listed a w hc hfree hr hy hS H
    refine ⟨fun h => (by rw [h] at hr; cases hr), fun j hj => ?_⟩
    by_cases hji : j = i
    · subst hji; exact hy.wpOp hi hS ⟨hS, H⟩
    · have h1 := H.2 j (ready_mono hj hji)
      obtain ⟨hjun, oj, hoj, hall⟩ := mem_ready.1 hj
      have hun := getD_both (mem_ready.1 hr).1
      have hnot : ∀ e ∈ oj.after, Region.binds md e = true → e.on ≠ i := fun e he hb heq => by
        have h1 := hall e he hb
        rw [heq, hun] at h1
        cases h1
      have h2 := wpOp_putIf hoj (hfree j oj hoj hji hjun hnot) (fun cs b => hsel i oi cs b hi) (fun cs b => hsel j oj cs b hoj) hQ hy h1
      have hfree' : ∀ m ok, ops[m]? = some ok → m ≠ i → (listed.setIfInBounds j true).getD m true = false → (∀ e ∈ ok.after, Region.binds md e = true → e.on ≠ i) → oi.apart ops ok = true := fun m ok hm hmi hun' hno => by
        refine hfree m ok hm hmi ?_ hno
        by_cases hjm : j = m
        · subst hjm; exact hjun
        · rw [getD_set_ne true hjm] at hun'; exact hun'
      refine wpOp_mono (fun a' w' h3 => ⟨h3.2.1, ih (listed.setIfInBounds j true) a' w' (hc.set hj) hfree' (ready_mono hr (Ne.symm hji)) h3.1 h3.2.1 ?_⟩) h2
      rw [Array.setIfInBounds_comm _ _ hji]
      exact h3.2.2
theorem heldG_mono {S S' : World → Prop} (h : ∀ w, S' w → S w) : ∀ (fuel : Nat) (b : Array Bool) (a : Act) (w : World), wpAnyG P md ops Q S' k m fuel b a w → wpAnyG P md ops Q S k m fuel b a w
  | 0, _, _, _, hh => hh
  | fuel + 1, _, _, _, hh => ⟨hh.1, fun i hi => wpOp_mono (fun a' w' h' => ⟨h _ h'.1, heldG_mono h fuel _ a' w' h'.2⟩) (hh.2 i hi)⟩
end

def wpSegsG (P : Program) (l : List Oper) (Q : Exit → Act → World → Prop) (js : List Nat) (k : Nat) (ks : List Nat) : List (List Nat × Option Nat) → Nat → Option Nat → Act → World → Prop
  | [], B, row, a, w => wpQuiet P l.toArray (fun w' => ∃ n : GW w B row, w' = n.w) (fun a' => wpList P l.toArray Q (pick l k :: picks l ks) a' w) (picks l js) a
  | (is, none) :: r, B, row, a, w => wpQuiet P l.toArray (fun w' => ∃ n : GW w B row, w' = n.w) (fun a' => wpSegsG P l Q js k ks r B row a' w) (picks l is) a
  | (is, some j) :: r, B, row, a, w => wpQuiet P l.toArray (fun w' => ∃ n : GW w B row, w' = n.w) (fun a' => wpList P l.toArray (EvQ (Gr B row w) (Goes (wpSegsG P l Q js k ks r) B row) Q) [pick l j] a' w) (picks l is) a
def chB (md : Region.Mode) (l : List Oper) : List Nat → Array Bool → Bool
  | [], b => Region.ready md l.toArray b == []
  | i :: r, b => decide (i < l.length) && (Region.ready md l.toArray b == [i]) && chB md l r (b.setIfInBounds i true)
def segBG (md : Region.Mode) (l : List Oper) (js : List Nat) (k : Nat) (ks : List Nat) : List (List Nat × Option Nat) → Array Bool → Bool
  | [], b => match quietBF md l k js b with
    | some b' => decide (k < l.length) && (Region.ready md l.toArray b' == [k]) && chB md l ks (b'.setIfInBounds k true)
    | none => false
  | (is, none) :: r, b => match quietBF md l k is b with
    | some b' => segBG md l js k ks r b'
    | none => false
  | (is, some j) :: r, b => match quietBF md l k is b with
    | some b' => decide (j < l.length) && (Region.ready md l.toArray b' == [j]) && segBG md l js k ks r (b'.setIfInBounds j true)
    | none => false

section
variable {P : Program} {l : List Oper} {Q : Exit → Act → World → Prop} {md : Region.Mode} {k m : Nat}
theorem quiet_soundG (hs : Region.noSelect l.toArray = true) (hQ : ∀ c a d v w, Q (.panic c) (a.put d v) w → Q (.panic c) a w) {w : World} {B : Nat} {row : Option Nat} {K : Act → Prop} {n : Nat} :
    ∀ (is : List Nat) (b b' : Array Bool) (a : Act), Cl md l.toArray b → quietBF md l k is b = some b' → (∀ a', Cl md l.toArray b' → K a' → wpAnyG P md l.toArray Q (InG w B row) k m n b' a' w) → wpQuiet P l.toArray (InG w B row) K (picks l is) a → wpAnyG P md l.toArray Q (InG w B row) k m (is.length + n) b a w
  | [], b, b', a, hc, hb, hk, h => by
    injection hb with hb
    subst hb
    rw [List.length_nil, Nat.zero_add]
    exact hk a hc h
  | i :: r, b, b', a, hcl, hb, hk, h => by
    unfold quietBF at hb
    split at hb
    · rename_i hc
      simp only [Bool.and_eq_true, decide_eq_true_eq] at hc
      obtain ⟨⟨⟨⟨h1, h2⟩, h3⟩, h4⟩, h5⟩ := hc
      have hi : l.toArray[i]? = some (pick l i) := by simpa using pick_get h1
      have h4' : i ∈ Region.ready md l.toArray b := by simpa using h4
      rw [List.length_cons, show r.length + 1 + n = (r.length + n) + 1 from by omega]
      have h' : if Region.wanted (pick l i) (yielded l.toArray a.tmps) then (pick l i).quiet P a (InG w B row) (wpQuiet P l.toArray (InG w B row) K (picks l r)) else wpQuiet P l.toArray (InG w B row) K (picks l r) (a.put (pick l i).dst undef) := h
      have hcl' := hcl.set h4'
      by_cases hw : Region.wanted (pick l i) (yielded l.toArray a.tmps) = true
      · rw [if_pos hw] at h'
        obtain ⟨v, hv, hn⟩ := h'
        exact anyG_first hi (Region.noSelect_spec hs) (fun c a w => hQ c a _ _ w) h5 _ _ _ _ hcl (Region.free_spec hi h3) h4' (.inl ⟨hw, fun w' hw' => run_of_quietAt h2 (hv w' hw')⟩) (InG.self w B row) (quiet_soundG hs hQ r _ b' _ hcl' hb hk hn)
      · rw [if_neg hw] at h'
        exact anyG_first hi (Region.noSelect_spec hs) (fun c a w => hQ c a _ _ w) h5 _ _ _ _ hcl (Region.free_spec hi h3) h4' (.inr ⟨by simpa using hw, rfl⟩) (InG.self w B row) (quiet_soundG hs hQ r _ b' _ hcl' hb hk h')
    · cases hb
theorem chain_sound : ∀ (ks : List Nat) (b : Array Bool) (a : Act) (w : World), chB md l ks b = true → wpList P l.toArray Q (picks l ks) a w → wpAny P md l.toArray Q ks.length b a w
  | [], b, a, w, hb, h => ⟨by simpa [chB] using hb, h⟩
  | i :: r, b, a, w, hb, h => by
    unfold chB at hb
    simp only [Bool.and_eq_true, decide_eq_true_eq, beq_iff_eq] at hb
    obtain ⟨⟨h1, h2⟩, h3⟩ := hb
    have hk : l.toArray[i]? = some (pick l i) := by simpa using pick_get h1
    refine ⟨fun h0 => (by rw [h2] at h0; cases h0), fun j hj => ?_⟩
    rw [h2] at hj
    obtain rfl : j = i := by simpa using hj
    refine wpOp_mono (K := fun a'' w'' => wpList P l.toArray Q (picks l r) a'' w'') (fun a'' w'' h' => chain_sound r _ a'' w'' h3 h') ?_
    unfold wpOp
    simp only [hk]
    simp only [picks, wpList] at h
    by_cases hw : Region.wanted (pick l j) (yielded l.toArray a.tmps) = true
    · rw [if_pos hw] at h ⊢
      exact h
    · rw [if_neg hw] at h ⊢
      exact h
theorem segs_soundG (hs : Region.noSelect l.toArray = true) (hQ : ∀ c a d v w, Q (.panic c) (a.put d v) w → Q (.panic c) a w) (js ks : List Nat) :
    ∀ (segs : List (List Nat × Option Nat)) (B : Nat) (row : Option Nat) (b : Array Bool) (a : Act) (w : World), Cl md l.toArray b → segBG md l js k ks segs b = true → wpSegsG P l Q js k ks segs B row a w → wpAnyG P md l.toArray Q (InG w B row) k ks.length (segN segs + js.length) b a w
  | [], B, row, b, a, w, hcl, hb, h => by
    unfold segBG at hb
    split at hb
    · rename_i b' hq
      simp only [Bool.and_eq_true, decide_eq_true_eq, beq_iff_eq] at hb
      obtain ⟨⟨h1, h2⟩, h3⟩ := hb
      have hk : l.toArray[k]? = some (pick l k) := by simpa using pick_get h1
      rw [show segN [] + js.length = js.length + 0 from by simp [segN]]
      refine quiet_soundG (n := 0) hs hQ js b b' a hcl hq (fun a' _ ha' => ⟨h2, ?_⟩) h
      refine wpOp_mono (K := fun a'' w'' => wpList P l.toArray Q (picks l ks) a'' w'') (fun a'' w'' h' => chain_sound ks _ a'' w'' h3 h') ?_
      unfold wpOp
      simp only [hk]
      simp only [wpList] at ha'
      by_cases hw : Region.wanted (pick l k) (yielded l.toArray a'.tmps) = true
      · rw [if_pos hw] at ha' ⊢
        exact ha'
      · rw [if_neg hw] at ha' ⊢
        exact ha'
    · cases hb
  | (is, none) :: r, B, row, b, a, w, hcl, hb, h => by
    unfold segBG at hb
    split at hb
    · rename_i b' hq
      rw [show segN ((is, none) :: r) + js.length = is.length + (segN r + js.length) from by simp only [segN]; omega]
      exact quiet_soundG hs hQ is b b' a hcl hq (fun a' hcl' ha' => segs_soundG hs hQ js ks r B row b' a' w hcl' hb ha') h
    · cases hb
  | (is, some j) :: r, B, row, b, a, w, hcl, hb, h => by
    unfold segBG at hb
    split at hb
    · rename_i b' hq
      simp only [Bool.and_eq_true, decide_eq_true_eq, beq_iff_eq] at hb
      obtain ⟨⟨h1, h2⟩, h3⟩ := hb
      rw [show segN ((is, some j) :: r) + js.length = is.length + ((segN r + js.length) + 1) from by simp only [segN]; omega]
      refine quiet_soundG (n := (segN r + js.length) + 1) hs hQ is b b' a hcl hq (fun a' hcl' ha' => ?_) h
      refine ⟨by rw [h2]; simp, fun i hi => ?_⟩
      have hir := hi
      rw [h2] at hi
      obtain rfl : i = j := by simpa using hi
      have hi' : l.toArray[i]? = some (pick l i) := by simpa using pick_get h1
      have key : ∀ a'' w'', (Gr B row w w'' ∧ ∃ B' row', B ≤ B' ∧ NewRow B row row' ∧ wpSegsG P l Q js k ks r B' row' a'' w'') → InG w B row w'' ∧ wpAnyG P md l.toArray Q (InG w B row) k ks.length (segN r + js.length) (b'.setIfInBounds i true) a'' w'' := fun a'' w'' hh => by
        obtain ⟨hg, B', row', hBB, hr, hh⟩ := hh
        exact ⟨⟨⟨w'', hg⟩, rfl⟩, heldG_mono (fun _ hw' => InG.mono hg hBB hr hw') _ _ _ _ (segs_soundG hs hQ js ks r B' row' _ a'' w'' (hcl'.set hir) h3 hh)⟩
      unfold wpOp
      simp only [hi']
      simp only [wpList] at ha'
      by_cases hw : Region.wanted (pick l i) (yielded l.toArray a'.tmps) = true
      · rw [if_pos hw] at ha' ⊢
        rcases ha' with ha' | ⟨h4, h5⟩
        · exact .inl (ev_wp (fun a'' w'' hh => key a'' w'' hh) ha')
        · exact .inr ⟨h4, ev_lets h5⟩
      · rw [if_neg hw] at ha' ⊢
        exact key _ _ ha'
    · cases hb

/-- A REGION THAT DRAWS ITS ORDER, by its stretches; number k, then those of ks, one by one, come last, behind 'js'. -/
theorem wp_region_segsG {id : Nat} {a : Act} {w : World} (row : Option Nat) (segs : List (List Nat × Option Nat)) (js : List Nat) (k : Nat) (ks : List Nat) (hm : P.follows .mixedOrders = true) (hs : Region.noSelect l.toArray = true)
    (hb : segBG .any l js k ks segs (Array.replicate l.length false) = true) (hn : segN segs + js.length + 1 + ks.length = l.length)
    (h : wpSegsG P l (NoPanic Q) js k ks segs w.heap.size row a w.drew) : (Code.region id l.toArray true).wp P Q a w := by
  refine wp_region_noPanic (wp_region_any hm ?_)
  have hc : Cl .any l.toArray (Array.replicate l.length false) := fun j oj _ hl => by rw [getD_replicate_false] at hl; cases hl
  have := wpAny_of_G _ _ _ _ (segs_soundG hs (Q := NoPanic Q) (fun _ _ _ _ _ h => h) js ks segs w.heap.size row _ a w.drew hc hb h)
  rw [hn] at this
  simpa using this
end
end Go.Proofs.Ytagfplcafeblbaa.Q
