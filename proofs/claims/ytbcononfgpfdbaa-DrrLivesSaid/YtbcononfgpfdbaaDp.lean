/-
  drr: what rings do, in plain Lean; that the circle with a place in it is the ring, turned.
-/
import Derived.Test.YtbcononfgpfdbaaProg
namespace Go.Proofs.Ytbcononfgpfdbaa.D

abbrev Mem := Int × Int
def zM : Mem := (0, 0)
/-- the place of a member; the length: there is none -/
def fnd (id : Int) (L : List Mem) : Nat := L.findIdx (fun m => m.1 == id)
def beg (q : Int) : List Mem → List Mem
  | [] => []
  | m :: r => (m.1, m.2 + q) :: r
def addP (q : Int) (L : List Mem) (id : Int) : Int × List Mem :=
  if fnd id L < L.length then (7, L) else if 16 ≤ L.length then (5, L) else (0, if L.length = 0 then [(id, q)] else L ++ [(id, 0)])
def remP (q : Int) (L : List Mem) (id : Int) : Int × List Mem :=
  if fnd id L < L.length then (0, if fnd id L = 0 then beg q (L.drop 1) else L.take (fnd id L) ++ L.drop (fnd id L + 1)) else (4, L)
def spendP (q : Int) (L : List Mem) (cost : Int) : Bool × Int × List Mem :=
  if cost < 1 ∨ 65536 < cost then (false, 1, L) else match L with
    | [] => (false, 4, [])
    | m :: r => if cost ≤ m.2 then (true, 0, (m.1, m.2 - cost) :: r) else (false, 0, beg q (r ++ [m]))
def credP (L : List Mem) (id : Int) : Int := if fnd id L < L.length then (L.getD (fnd id L) zM).2 else 0

theorem beg_length (q : Int) (L : List Mem) : (beg q L).length = L.length := by cases L <;> rfl
theorem beg_ids (q : Int) (L : List Mem) : (beg q L).map (·.1) = L.map (·.1) := by cases L <;> rfl

/-- turned by n -/
def rot (n : Nat) (Z : List Mem) : List Mem := Z.drop n ++ Z.take n
theorem rot_length (n : Nat) (Z : List Mem) : (rot n Z).length = Z.length := by simp [rot]; omega
theorem rot_mem {n : Nat} {Z : List Mem} {m : Mem} : m ∈ rot n Z ↔ m ∈ Z := by
  unfold rot
  rw [List.mem_append, Or.comm, ← List.mem_append, List.take_append_drop]
theorem rot_getD {n : Nat} {Z : List Mem} (hn : n < Z.length) (k : Nat) (hk : k < Z.length) : (rot n Z).getD k zM = Z.getD ((n + k) % Z.length) zM := by
  unfold rot
  rcases Nat.lt_or_ge (n + k) Z.length with h | h
  · rw [Nat.mod_eq_of_lt h]
    simp only [List.getD_eq_getElem?_getD]
    rw [List.getElem?_append_left (by simp; omega), List.getElem?_drop]
  · rw [show (n + k) % Z.length = n + k - Z.length from by rw [Nat.mod_eq_sub_mod h, Nat.mod_eq_of_lt (by omega)]]
    simp only [List.getD_eq_getElem?_getD]
    rw [List.getElem?_append_right (by simp; omega), List.getElem?_take_of_lt (by simp; omega)]
    congr 2
    simp
    omega

theorem fnd_lt {id : Int} {L : List Mem} : fnd id L < L.length ↔ ∃ m ∈ L, m.1 = id := by
  unfold fnd
  rw [List.findIdx_lt_length]
  simp
theorem fnd_le (id : Int) (L : List Mem) : fnd id L ≤ L.length := List.findIdx_le_length
theorem fnd_get {id : Int} {L : List Mem} (h : fnd id L < L.length) : (L.getD (fnd id L) zM).1 = id := by
  have := @List.findIdx_getElem _ (fun m : Mem => m.1 == id) L h
  rw [List.getD_eq_getElem?_getD, List.getElem?_eq_getElem h]
  exact of_decide_eq_true this
theorem getD_mem {L : List Mem} {k : Nat} (h : k < L.length) : L.getD k zM ∈ L := by
  rw [List.getD_eq_getElem?_getD, List.getElem?_eq_getElem h]
  simp
/-- where ids are told apart there is one place -/
theorem fnd_uniq {L : List Mem} (hn : (L.map (·.1)).Nodup) {k : Nat} (hk : k < L.length) : fnd (L.getD k zM).1 L = k := by
  have h1 : fnd (L.getD k zM).1 L < L.length := fnd_lt.2 ⟨_, getD_mem hk, rfl⟩
  have h2 := fnd_get h1
  generalize fnd (L.getD k zM).1 L = j at h1 h2
  have hl : (L.map (·.1)).length = L.length := by simp
  have e : ∀ i, i < L.length → (L.map (·.1))[i]? = some (L.getD i zM).1 := fun i hi => by
    rw [List.getElem?_map, List.getD_eq_getElem?_getD, List.getElem?_eq_getElem hi]
    rfl
  exact (List.getElem?_inj (by omega) hn (i := j) (j := k)).1 ((e j h1).trans ((congrArg some h2).trans (e k hk).symm))
theorem cred_mem {L : List Mem} (hn : (L.map (·.1)).Nodup) {m : Mem} (hm : m ∈ L) : credP L m.1 = m.2 := by
  obtain ⟨k, hk, e⟩ := List.mem_iff_getElem.1 hm
  have e' : L.getD k zM = m := by rw [List.getD_eq_getElem?_getD, List.getElem?_eq_getElem hk]; simpa using e
  have := fnd_uniq hn hk
  unfold credP
  rw [e'] at this
  rw [this, if_pos hk, e']
theorem cred_no {L : List Mem} {id : Int} (h : ¬ ∃ m ∈ L, m.1 = id) : credP L id = 0 := by
  unfold credP
  rw [if_neg (fun h1 => h (fnd_lt.1 h1))]

/-- the circle, and the place in it -/
structure Cir (Z : List Mem) (n : Nat) : Prop where
  at_ : n < Z.length ∨ (Z = [] ∧ n = 0)
  ids : (Z.map (·.1)).Nodup
theorem Cir.nodup {Z : List Mem} {n : Nat} (h : Cir Z n) : ((rot n Z).map (·.1)).Nodup := by
  have : (rot n Z).Perm Z := by
    unfold rot
    exact List.perm_append_comm.trans (by rw [List.take_append_drop])
  exact (this.map _).nodup_iff.2 h.ids
theorem Cir.cred {Z : List Mem} {n : Nat} (h : Cir Z n) (id : Int) : credP (rot n Z) id = credP Z id := by
  by_cases hh : ∃ m ∈ Z, m.1 = id
  · obtain ⟨m, hm, rfl⟩ := hh
    rw [cred_mem h.ids hm, cred_mem h.nodup (rot_mem.2 hm)]
  · rw [cred_no hh, cred_no (fun ⟨m, hm, e⟩ => hh ⟨m, rot_mem.1 hm, e⟩)]
theorem Cir.has {Z : List Mem} {n : Nat} (id : Int) : fnd id (rot n Z) < (rot n Z).length ↔ fnd id Z < Z.length := by
  rw [fnd_lt, fnd_lt]
  exact ⟨fun ⟨m, hm, e⟩ => ⟨m, rot_mem.1 hm, e⟩, fun ⟨m, hm, e⟩ => ⟨m, rot_mem.2 hm, e⟩⟩

theorem rot_app {A B : List Mem} {n : Nat} (h : A.length = n) : rot n (A ++ B) = B ++ A := by
  subst h
  simp [rot]
theorem split (Z : List Mem) (n : Nat) (h : n ≤ Z.length) : ∃ A B, Z = A ++ B ∧ A.length = n := ⟨Z.take n, Z.drop n, (List.take_append_drop n Z).symm, by simp; omega⟩
theorem fnd_split {id : Int} {L : List Mem} (h : fnd id L < L.length) : ∃ X m Y, L = X ++ m :: Y ∧ X.length = fnd id L ∧ m.1 = id ∧ (∀ x ∈ X, x.1 ≠ id) := by
  refine ⟨L.take (fnd id L), L[fnd id L], L.drop (fnd id L + 1), ?_, by simp; omega, ?_, fun x hx => ?_⟩
  · rw [← List.drop_eq_getElem_cons h, List.take_append_drop]
  · have := fnd_get h
    rwa [List.getD_eq_getElem?_getD, List.getElem?_eq_getElem h] at this
  · obtain ⟨k, hk, rfl⟩ := List.mem_iff_getElem.1 hx
    have hk' : k < fnd id L := by simp at hk; omega
    have := List.not_of_lt_findIdx (p := fun m : Mem => m.1 == id) (xs := L) (i := k) hk'
    simpa using this
theorem fnd_app {id : Int} {X Y : List Mem} {m : Mem} (h1 : m.1 = id) (h2 : ∀ x ∈ X, x.1 ≠ id) : fnd id (X ++ m :: Y) = X.length := by
  unfold fnd
  rw [List.findIdx_append]
  have : ¬ (X.findIdx (fun m => m.1 == id) < X.length) := fun h => by
    obtain ⟨x, hx, e⟩ := fnd_lt.1 h
    exact h2 x hx e
  rw [if_neg this, List.findIdx_cons]
  simp [h1]

/-- a turn begins at k -/
def bump (q : Int) (k : Nat) (Z : List Mem) : List Mem := Z.take k ++ beg q (Z.drop k)
theorem bump_app (q : Int) {A B : List Mem} {n : Nat} (h : A.length = n) : bump q n (A ++ B) = A ++ beg q B := by
  subst h
  simp [bump]
theorem bump_zero (q : Int) (B : List Mem) : bump q 0 B = beg q B := by simp [bump]
theorem bump_ids (q : Int) (k : Nat) (Z : List Mem) : (bump q k Z).map (·.1) = Z.map (·.1) := by
  unfold bump
  rw [List.map_append, beg_ids, ← List.map_append, List.take_append_drop]
theorem bump_length (q : Int) (k : Nat) (Z : List Mem) : (bump q k Z).length = Z.length := by
  have := congrArg List.length (bump_ids q k Z)
  simpa using this

/-- Add, of the circle -/
def addX (q : Int) (Z : List Mem) (n : Nat) (id : Int) : Int × List Mem × Nat :=
  if fnd id Z < Z.length then (7, Z, n) else if 16 ≤ Z.length then (5, Z, n) else if Z.length = 0 then (0, [(id, q)], 0) else (0, Z.take n ++ (id, 0) :: Z.drop n, n + 1)
theorem add_rel {q : Int} {Z : List Mem} {n : Nat} (h : Cir Z n) (id : Int) :
    (addP q (rot n Z) id).1 = (addX q Z n id).1 ∧ (addP q (rot n Z) id).2 = rot (addX q Z n id).2.2 (addX q Z n id).2.1 ∧ Cir (addX q Z n id).2.1 (addX q Z n id).2.2 := by
  unfold addP addX
  by_cases h1 : fnd id Z < Z.length
  · rw [if_pos h1, if_pos ((Cir.has id).2 h1)]
    exact ⟨rfl, rfl, h⟩
  rw [if_neg h1, if_neg (fun hh => h1 ((Cir.has id).1 hh)), rot_length]
  by_cases h2 : 16 ≤ Z.length
  · rw [if_pos h2, if_pos h2]
    exact ⟨rfl, rfl, h⟩
  rw [if_neg h2, if_neg h2]
  by_cases h3 : Z.length = 0
  · rw [if_pos h3, if_pos h3]
    exact ⟨rfl, rfl, .inl (by simp), by simp⟩
  rw [if_neg h3, if_neg h3]
  have hn : n < Z.length := by
    rcases h.at_ with h4 | ⟨h4, _⟩
    · exact h4
    · subst h4; simp at h3
  refine ⟨rfl, ?_, .inl (by simp; omega), ?_⟩
  · show rot n Z ++ [(id, 0)] = rot (n + 1) (Z.take n ++ (id, 0) :: Z.drop n)
    rw [show Z.take n ++ (id, (0 : Int)) :: Z.drop n = (Z.take n ++ [(id, 0)]) ++ Z.drop n from by simp, rot_app (by simp; omega)]
    simp [rot]
  · have hp : (Z.take n ++ (id, 0) :: Z.drop n).Perm ((id, 0) :: Z) := by
      have := @List.perm_middle _ (id, (0 : Int)) (Z.take n) (Z.drop n)
      rwa [List.take_append_drop] at this
    refine (hp.map _).nodup_iff.2 ?_
    rw [List.map_cons, List.nodup_cons]
    refine ⟨fun hm => ?_, h.ids⟩
    obtain ⟨m, hm, e⟩ := List.mem_map.1 hm
    exact h1 (fnd_lt.2 ⟨m, hm, e⟩)

/-- Remove, of the circle -/
def remX (q : Int) (Z : List Mem) (n : Nat) (id : Int) : Int × List Mem × Nat :=
  if fnd id Z < Z.length then
    let Z1 := Z.take (fnd id Z) ++ Z.drop (fnd id Z + 1)
    let n1 := if fnd id Z < n then n - 1 else n
    let n2 := if Z1.length ≤ n1 then 0 else n1
    (0, if fnd id Z = n then bump q n2 Z1 else Z1, n2)
  else (4, Z, n)
theorem rem_at {X Y : List Mem} {m : Mem} {k : Nat} (h : X.length = k) : (X ++ m :: Y).take k ++ (X ++ m :: Y).drop (k + 1) = X ++ Y := by
  subst h
  simp [List.drop_append]
theorem nodup_rem {X Y : List Mem} {m : Mem} (h : ((X ++ m :: Y).map (·.1)).Nodup) : ((X ++ Y).map (·.1)).Nodup :=
  h.sublist ((List.Sublist.append (List.Sublist.refl X) (List.sublist_cons_self m Y)).map _)
theorem rem_rel {q : Int} {Z : List Mem} {n : Nat} (h : Cir Z n) (id : Int) :
    (remP q (rot n Z) id).1 = (remX q Z n id).1 ∧ (remP q (rot n Z) id).2 = rot (remX q Z n id).2.2 (remX q Z n id).2.1 ∧ Cir (remX q Z n id).2.1 (remX q Z n id).2.2 := by
  unfold remP remX
  by_cases h1 : fnd id Z < Z.length
  rotate_left
  · rw [if_neg h1, if_neg (fun hh => h1 ((Cir.has id).1 hh))]
    exact ⟨rfl, rfl, h⟩
  rw [if_pos h1, if_pos ((Cir.has id).2 h1)]
  have hn : n < Z.length := by
    rcases h.at_ with h4 | ⟨h4, _⟩
    · exact h4
    · subst h4; simp at h1
  obtain ⟨X, m, Y, rfl, hX, hm, hno⟩ := fnd_split h1
  rw [← hX]
  dsimp only
  rw [rem_at rfl]
  have hnd := nodup_rem h.ids
  have hl : (X ++ m :: Y).length = (X ++ Y).length + 1 := by simp; omega
  have hlXY : (X ++ Y).length = X.length + Y.length := by simp
  clear h1
  rcases Nat.lt_trichotomy X.length n with hc | hc | hc
  · -- behind the place
    have hne : ¬ X.length = n := by omega
    rw [if_pos hc, if_neg (show ¬ (X ++ Y).length ≤ n - 1 from by omega), if_neg hne]
    obtain ⟨A, B, rfl, hA⟩ := split Y (n - 1 - X.length) (by omega)
    have hA : X.length + A.length = n - 1 := by omega
    have hXAB : (X ++ (A ++ B)).length = X.length + (A.length + B.length) := by simp
    have hYAB : (A ++ B).length = A.length + B.length := by simp
    have e1 : rot n (X ++ m :: (A ++ B)) = (B ++ X) ++ m :: A := by
      rw [show X ++ m :: (A ++ B) = (X ++ m :: A) ++ B from by simp, rot_app (by simp; omega)]
      simp
    have hB : ∀ x ∈ B, x.1 ≠ id := fun x hx e => by
      have := h.ids
      rw [show X ++ m :: (A ++ B) = X ++ (m :: (A ++ B)) from rfl, List.map_append, List.map_cons, List.nodup_append] at this
      have h2 := (List.nodup_cons.1 this.2.1).1
      exact h2 (List.mem_map.2 ⟨x, by simp [hx], by rw [hm, e]⟩)
    have e2 : fnd id (rot n (X ++ m :: (A ++ B))) = (B ++ X).length := by
      rw [e1]
      exact fnd_app hm (fun x hx => (List.mem_append.1 hx).elim (hB x) (hno x))
    have hBp : 0 < B.length := by omega
    rw [e2, e1, if_neg (show ¬ (B ++ X).length = 0 from by rw [List.length_append]; omega), rem_at rfl]
    refine ⟨rfl, ?_, .inl (show n - 1 < (X ++ (A ++ B)).length from by omega), hnd⟩
    rw [show X ++ (A ++ B) = (X ++ A) ++ B from by simp, rot_app (show (X ++ A).length = n - 1 from by rw [List.length_append]; omega)]
    simp
  · -- the place itself
    rw [if_neg (show ¬ X.length < n from by omega), if_pos hc]
    have e1 : rot n (X ++ m :: Y) = m :: Y ++ X := by rw [rot_app hc]
    have e2 : fnd id (rot n (X ++ m :: Y)) = 0 := by
      rw [e1]
      exact fnd_app (X := []) hm (by simp)
    rw [e2, e1, if_pos rfl]
    rcases Nat.eq_zero_or_pos Y.length with hy | hy
    · have : Y = [] := List.eq_nil_of_length_eq_zero hy
      subst this
      have hle : (X ++ ([] : List Mem)).length ≤ n := by simp; omega
      simp only [if_pos hle]
      refine ⟨trivial, by simp [bump, rot], ?_, by rw [bump_ids]; exact hnd⟩
      rw [bump_length]
      rcases Nat.eq_zero_or_pos X.length with hx | hx
      · have : X = [] := List.eq_nil_of_length_eq_zero hx
        subst this
        exact .inr ⟨rfl, rfl⟩
      · exact .inl (by simpa using hx)
    · rw [if_neg (show ¬ (X ++ Y).length ≤ n from by omega)]
      refine ⟨rfl, ?_, .inl (by rw [bump_length]; omega), by rw [bump_ids]; exact hnd⟩
      rw [bump_app q hc, rot_app hc]
      cases Y with
      | nil => simp at hy
      | cons y r => rfl
  · rw [if_neg (show ¬ X.length < n from by omega), if_neg (show ¬ (X ++ Y).length ≤ n from by omega), if_neg (show ¬ X.length = n from by omega)]
    obtain ⟨A, B, rfl, hA⟩ := split X n (by omega)
    have e1 : rot n ((A ++ B) ++ m :: Y) = B ++ m :: (Y ++ A) := by
      rw [show (A ++ B) ++ m :: Y = A ++ (B ++ m :: Y) from by simp, rot_app hA]
      simp
    have e2 : fnd id (rot n ((A ++ B) ++ m :: Y)) = B.length := by
      rw [e1]
      exact fnd_app hm (fun x hx => hno x (by simp [hx]))
    have hBp : 0 < B.length := by simp at hc; omega
    rw [e2, e1, if_neg (show ¬ B.length = 0 from by omega), rem_at rfl]
    refine ⟨rfl, ?_, .inl (by omega), hnd⟩
    rw [show A ++ B ++ Y = A ++ (B ++ Y) from by simp, rot_app hA]
    simp

/-- Spend, of the circle -/
def spendX (q : Int) (Z : List Mem) (n : Nat) (cost : Int) : Bool × Int × List Mem × Nat :=
  if cost < 1 ∨ 65536 < cost then (false, 1, Z, n) else if Z.length = 0 then (false, 4, Z, n)
  else if cost ≤ (Z.getD n zM).2 then (true, 0, bump (-cost) n Z, n) else (false, 0, bump q ((n + 1) % Z.length) Z, (n + 1) % Z.length)
theorem spend_rel {q : Int} {Z : List Mem} {n : Nat} (h : Cir Z n) (cost : Int) :
    (spendP q (rot n Z) cost).1 = (spendX q Z n cost).1 ∧ (spendP q (rot n Z) cost).2.1 = (spendX q Z n cost).2.1 ∧ (spendP q (rot n Z) cost).2.2 = rot (spendX q Z n cost).2.2.2 (spendX q Z n cost).2.2.1 ∧ Cir (spendX q Z n cost).2.2.1 (spendX q Z n cost).2.2.2 := by
  unfold spendP spendX
  by_cases h0 : cost < 1 ∨ 65536 < cost
  · rw [if_pos h0, if_pos h0]
    exact ⟨rfl, rfl, rfl, h⟩
  rw [if_neg h0, if_neg h0]
  rcases h.at_ with hn | ⟨rfl, rfl⟩
  rotate_left
  · exact ⟨rfl, rfl, rfl, h⟩
  obtain ⟨A, B, rfl, hA⟩ := split Z n (by omega)
  cases B with
  | nil => simp at hn; omega
  | cons m B =>
    have hg : (A ++ m :: B).getD n zM = m := by simp [← hA]
    have e1 : rot n (A ++ m :: B) = m :: (B ++ A) := by rw [rot_app hA]; rfl
    rw [e1, hg, if_neg (by simp)]
    dsimp only
    by_cases hc : cost ≤ m.2
    · rw [if_pos hc, if_pos hc]
      refine ⟨rfl, rfl, ?_, .inl (by rw [bump_length]; exact hn), by rw [bump_ids]; exact h.ids⟩
      dsimp only
      rw [bump_app _ hA, rot_app hA]
      simp [beg, Int.sub_eq_add_neg]
    · rw [if_neg hc, if_neg hc]
      refine ⟨rfl, rfl, ?_, .inl (by rw [bump_length]; exact Nat.mod_lt _ (by omega)), by rw [bump_ids]; exact h.ids⟩
      dsimp only
      cases B with
      | nil =>
        rw [show (n + 1) % (A ++ [m]).length = 0 from by rw [show (A ++ [m]).length = n + 1 from by simp [hA]]; exact Nat.mod_self _]
        simp [bump, rot]
      | cons y r =>
        rw [Nat.mod_eq_of_lt (by simp; omega), show A ++ m :: y :: r = (A ++ [m]) ++ (y :: r) from by simp, bump_app _ (by simp [hA]), rot_app (by simp [hA])]
        simp [beg]
end Go.Proofs.Ytbcononfgpfdbaa.D
