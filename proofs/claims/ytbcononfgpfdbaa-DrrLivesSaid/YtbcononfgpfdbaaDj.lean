/-
  drr: around and around, in plain Lean.
-/
import Derived.Test.YtbcononfgpfdbaaDp
namespace Go.Proofs.Ytbcononfgpfdbaa.D

/-- members as the law added them, with a quantum of one -/
def Lof : List Int → List Mem
  | [] => []
  | a :: r => (a, 1) :: r.map (fun x => (x, 0))
theorem Lof_ids : ∀ l, (Lof l).map (·.1) = l
  | [] => rfl
  | a :: r => by
    simp only [Lof, List.map_cons, List.map_map]
    rw [show ((fun x : Mem => x.1) ∘ fun x : Int => (x, (0 : Int))) = id from rfl, List.map_id]
theorem Lof_length (l : List Int) : (Lof l).length = l.length := by
  have := congrArg List.length (Lof_ids l)
  simpa using this
theorem Lof_has {l : List Int} {id : Int} : fnd id (Lof l) < (Lof l).length ↔ id ∈ l := by
  rw [fnd_lt]
  constructor
  · rintro ⟨m, hm, e⟩
    rw [← Lof_ids l]
    exact List.mem_map.2 ⟨m, hm, e⟩
  · intro h
    rw [← Lof_ids l] at h
    obtain ⟨m, hm, e⟩ := List.mem_map.1 h
    exact ⟨m, hm, e⟩
theorem Lof_snoc {l : List Int} (h : 0 < l.length) (x : Int) : Lof (l ++ [x]) = Lof l ++ [(x, 0)] := by
  cases l with
  | nil => simp at h
  | cons a r => simp [Lof]
theorem add_Lof (l : List Int) (id : Int) : addP 1 (Lof l) id = if id ∈ l then (7, Lof l) else if 16 ≤ l.length then (5, Lof l) else (0, Lof (l ++ [id])) := by
  unfold addP
  by_cases h1 : id ∈ l
  · rw [if_pos h1, if_pos (Lof_has.2 h1)]
  rw [if_neg h1, if_neg (fun h => h1 (Lof_has.1 h)), Lof_length]
  by_cases h2 : 16 ≤ l.length
  · rw [if_pos h2, if_pos h2]
  rw [if_neg h2, if_neg h2]
  by_cases h3 : l.length = 0
  · rw [if_pos h3, List.eq_nil_of_length_eq_zero h3]
    rfl
  · rw [if_neg h3, Lof_snoc (by omega)]
theorem Lof_get {l : List Int} {k : Nat} (h : k < l.length) : ((Lof l).getD k zM).1 = l.getD k 0 := by
  have e : ((Lof l).map (·.1))[k]? = l[k]? := by rw [Lof_ids]
  rw [List.getElem?_map] at e
  simp only [List.getD_eq_getElem?_getD]
  rw [List.getElem?_eq_getElem h] at e ⊢
  cases hx : (Lof l)[k]? with
  | none => rw [hx] at e; cases e
  | some m => rw [hx] at e; injection e
theorem rem_Lof {l : List Int} {k : Nat} (hn : l.Nodup) (h1 : 1 ≤ k) (hk : k < l.length) : remP 1 (Lof l) (l.getD k 0) = (0, Lof (l.take k ++ l.drop (k + 1))) := by
  have hk' : k < (Lof l).length := by rw [Lof_length]; exact hk
  have e : fnd (l.getD k 0) (Lof l) = k := by
    rw [← Lof_get hk]
    exact fnd_uniq (by rw [Lof_ids]; exact hn) hk'
  unfold remP
  rw [e, if_pos hk', if_neg (by omega)]
  cases l with
  | nil => simp at hk
  | cons a r =>
    obtain ⟨k', rfl⟩ : ∃ k', k = k' + 1 := ⟨k - 1, by omega⟩
    simp [Lof]
theorem nodup_snoc {l : List Int} {x : Int} (h : l.Nodup) (hx : x ∉ l) : (l ++ [x]).Nodup := by
  rw [List.nodup_append]
  refine ⟨h, by simp, fun a ha b hb => ?_⟩
  obtain rfl : b = x := by simpa using hb
  rintro rfl
  exact hx ha

/-- the ring behind i turns -/
structure CircL (l : List Int) (i : Nat) (L : List Mem) : Prop where
  len : L.length = l.length
  ids : ∀ j, j < l.length → (L.getD j zM).1 = l.getD ((i + j) % l.length) 0
  sm : ∀ m ∈ L, 0 ≤ m.2 ∧ m.2 ≤ 1 + (i : Int)
theorem circ_start (l : List Int) : CircL l 0 (Lof l) := by
  refine ⟨Lof_length l, fun j hj => by rw [Nat.zero_add, Nat.mod_eq_of_lt hj, Lof_get hj], fun m hm => ?_⟩
  cases l with
  | nil => simp [Lof] at hm
  | cons a r =>
    rcases List.mem_cons.1 hm with rfl | hm
    · show 0 ≤ (1 : Int) ∧ (1 : Int) ≤ 1 + ((0 : Nat) : Int)
      omega
    · obtain ⟨x, _, rfl⟩ := List.mem_map.1 hm
      show 0 ≤ (0 : Int) ∧ (0 : Int) ≤ 1 + ((0 : Nat) : Int)
      omega
theorem circ_head {l : List Int} {i : Nat} {h : Mem} {r : List Mem} (H : CircL l i (h :: r)) : h.1 = l.getD (i % l.length) 0 := by
  have hl := H.len
  have := H.ids 0 (by simp at hl; omega)
  simpa using this
theorem circ_spend {l : List Int} {i : Nat} {h : Mem} {r : List Mem} (H : CircL l i (h :: r)) (hi : i ≤ 1000) : spendP 1 (h :: r) 65536 = (false, 0, beg 1 (r ++ [h])) ∧ CircL l (i + 1) (beg 1 (r ++ [h])) := by
  have hs := H.sm h (by simp)
  have hl : r.length + 1 = l.length := by have := H.len; simpa using this
  constructor
  · unfold spendP
    rw [if_neg (by omega)]
    dsimp only
    rw [if_neg (by omega)]
  · refine ⟨by rw [beg_length]; simpa using hl, fun j hj => ?_, fun m hm => ?_⟩
    · have e1 : ((beg 1 (r ++ [h])).getD j zM).1 = ((r ++ [h]).getD j zM).1 := by
        have e : ((beg 1 (r ++ [h])).map (·.1))[j]? = ((r ++ [h]).map (·.1))[j]? := by rw [beg_ids]
        simp only [List.getElem?_map] at e
        simp only [List.getD_eq_getElem?_getD]
        cases h1 : (beg 1 (r ++ [h]))[j]? <;> cases h2 : (r ++ [h])[j]? <;> simp [h1, h2] at e ⊢
        exact e
      rw [e1]
      rcases Nat.lt_or_ge j r.length with hr | hr
      · have := H.ids (j + 1) (by omega)
        rw [show i + 1 + j = i + (j + 1) from by omega, ← this]
        simp only [List.getD_eq_getElem?_getD]
        rw [List.getElem?_append_left hr]
        simp
      · obtain rfl : j = r.length := by omega
        have := circ_head H
        rw [show i + 1 + r.length = i + l.length from by omega, Nat.add_mod_right, ← this]
        simp
    · have key : ∀ m ∈ r ++ [h], 0 ≤ m.2 ∧ m.2 ≤ 1 + (i : Int) := fun m hm => H.sm m (by
        rcases List.mem_append.1 hm with hm | hm
        · simp [hm]
        · obtain rfl := List.mem_singleton.1 hm; simp)
      cases hr : r ++ [h] with
      | nil => rw [hr] at hm; cases hm
      | cons a r' =>
        rw [hr] at hm key
        rcases List.mem_cons.1 hm with rfl | hm
        · have := key a (by simp)
          show 0 ≤ a.2 + 1 ∧ a.2 + 1 ≤ 1 + ((i + 1 : Nat) : Int)
          omega
        · have := key m (by simp [hm])
          omega
end Go.Proofs.Ytbcononfgpfdbaa.D
