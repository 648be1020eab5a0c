/-
  frag: parts go there and back: plain laws.
-/
import Derived.Test.YthgdbdhonhkkpaaGh
import Derived.Test.YthgdbdhonhkkpaaGi
namespace Go.Proofs.Ythgdbdhonhkkpaa.Fg
open Go.RowKit Go.Proofs.Ythgdbdhonhkkpaa.L Go.Proofs.Ythgdbdhonhkkpaa.V Go.Proofs.Ythgdbdhonhkkpaa.N Go.Proofs.YthgdbdhonhkkpaaW.PrintWords

theorem drop_two {l : List Int} {q : Nat} (h : q + 2 ≤ l.length) : l.drop q = [l.getD q 0, l.getD (q + 1) 0] ++ l.drop (q + 2) := by
  have h0 : q < l.length := by omega
  have h1 : q + 1 < l.length := by omega
  rw [List.drop_eq_getElem_cons h0, List.drop_eq_getElem_cons h1, List.getD_eq_getElem?_getD, List.getD_eq_getElem?_getD, List.getElem?_eq_getElem h0, List.getElem?_eq_getElem h1]
  rfl
/-- what is read is written as it was -/
theorem write_read {l : List Int} (hl : okB l) {p : Pt} (h : readR l = (p, 0)) : wrE p.1 p.2.1 p.2.2.1 p.2.2.2 = 0 ∧ wrL p.1 p.2.1 p.2.2.1 p.2.2.2 = l := by
  unfold readR at h
  by_cases he : (dec l).2.2 = 0
  · obtain ⟨hb, h0, h1, hq⟩ := dec_back l hl he
    rw [if_neg (fun h => h he)] at h
    by_cases hs : l.length < (dec l).2.1.toNat + 2
    · rw [if_pos hs] at h; cases h
    rw [if_neg hs] at h
    split at h
    · rename_i hr
      injection h with h _
      subst h
      have hd : (l.drop ((dec l).2.1.toNat + 2)).length = l.length - ((dec l).2.1.toNat + 2) := List.length_drop
      refine ⟨if_pos (by rw [hd]; exact hr), ?_⟩
      unfold wrL
      rw [if_pos (by rw [hd]; exact hr), List.append_assoc, ← drop_two (by omega)]
      exact hb.symm
    · cases h
  · rw [if_pos he] at h
    injection h with _ h
    exact absurd h he
/-- what is written is read as it was -/
theorem read_write {id ix ct : Int} {d : List Int} (h : rightZ id ix ct d.length = true) : readR (wrL id ix ct d) = ((id, ix, ct, d), 0) := by
  obtain ⟨g1, g2, g3, g4, g5, g6, g7⟩ := right_id h
  have e : wrL id ix ct d = putL id ++ ([ix, ct] ++ d) := by unfold wrL; rw [if_pos h, List.append_assoc]
  rw [e]
  have hd := dec_put id ([ix, ct] ++ d) (by omega) g2
  unfold readR
  rw [hd]
  dsimp only
  rw [if_neg (by decide), Int.toNat_natCast, if_neg (by simp)]
  have e0 : (putL id ++ ([ix, ct] ++ d)).getD (putL id).length 0 = ix := by simp [List.getD_eq_getElem?_getD]
  have e1 : (putL id ++ ([ix, ct] ++ d)).getD ((putL id).length + 1) 0 = ct := by simp [List.getD_eq_getElem?_getD]
  have e2 : (putL id ++ ([ix, ct] ++ d)).drop ((putL id).length + 2) = d := by simp [List.drop_append]
  have e3 : (putL id ++ ([ix, ct] ++ d)).length - ((putL id).length + 2) = d.length := by simp; omega
  rw [e0, e1, e2, e3, if_pos h]
theorem wrL_len {id ix ct : Int} {d : List Int} (h : rightZ id ix ct d.length = true) : (wrL id ix ct d).length ≤ 490 := by
  obtain ⟨g1, g2, g3, g4, g5, g6, g7⟩ := right_id h
  unfold wrL
  rw [if_pos h]
  have := putL_len id
  simp
  omega
theorem wrL_ok {id ix ct : Int} {d : List Int} (h : rightZ id ix ct d.length = true) (hd : okB d) : okB (wrL id ix ct d) := by
  obtain ⟨g1, g2, g3, g4, g5, g6, g7⟩ := right_id h
  unfold wrL
  rw [if_pos h]
  intro x hx
  rw [List.append_assoc] at hx
  rcases List.mem_append.1 hx with hx | hx
  · exact putL_ok (by omega) x hx
  · rcases List.mem_append.1 hx with hx | hx
    · simp at hx
      omega
    · exact hd x hx
set_option maxRecDepth 100000 in
theorem right_nums {id : Int} {i q n m : Nat} (h1 : 1 ≤ id) (h2 : id ≤ 4611686018427387903) (hi : i < q) (hq : q ≤ 50) (hn : n ≤ q * 480) (hm : m = min ((i + 1) * 480) n - i * 480) (h0 : (q - 1) * 480 ≤ n) (hlast : n = 0 → q = 1) (hl : 0 < n → (q - 1) * 480 < n) : rightZ id (i : Int) (q : Int) m = true := by
  refine decide_eq_true ⟨h1, h2, by omega, by omega, by omega, by omega, by omega, ?_⟩
  by_cases hz : n = 0
  · have := hlast hz
    exact .inl ⟨by omega, by omega⟩
  · have := hl (by omega)
    exact .inr ⟨by omega, by omega⟩
set_option maxRecDepth 100000 in
theorem cnt_more (n : Nat) : (n = 0 → cntN n = 1) ∧ (0 < n → (cntN n - 1) * 480 < n) := by
  unfold cntN
  split <;> omega
theorem anyBad_of {L : List Pt} {n : Nat} (h : ∀ i, i < n → badAt L i = false) : anyBad L n = false := by
  induction n with
  | zero => rfl
  | succ k ih => rw [anyBad_succ, ih (fun i hi => h i (by omega)), h k (by omega)]; rfl
theorem take_step {l : List Int} {a b : Nat} (h : a ≤ b) (ha : a ≤ l.length) : l.take a ++ (l.take (min b l.length)).drop a = l.take b := by
  have e : l.take b = l.take (min b l.length) := by
    by_cases hb : b ≤ l.length
    · rw [Nat.min_eq_left hb]
    · rw [Nat.min_eq_right (by omega), List.take_of_length_le (by omega), List.take_of_length_le (Nat.le_refl _)]
  rw [e]
  have e2 : l.take a = (l.take (min b l.length)).take a := by rw [List.take_take, Nat.min_eq_left (by omega)]
  rw [e2, List.take_append_drop]
/-- a frame's parts are joined to it again -/
theorem join_split {id : Int} {l : List Int} (h : l.length ≤ 24000) (h1 : 1 ≤ id) (h2 : id ≤ 4611686018427387903) {L : List Pt} (hL : spL id l = L) :
    (∀ i, i < L.length → rightZ (L.getD i zP).1 (L.getD i zP).2.1 (L.getD i zP).2.2.1 (L.getD i zP).2.2.2.length = true) ∧ joinE L = 0 ∧ joinD L = l := by
  obtain ⟨e0, e1, hat⟩ := sp_at h (decide_eq_true ⟨h1, h2⟩) hL
  obtain ⟨b1, b2, b3, b4⟩ := cnt_bounds h
  obtain ⟨m1, m2⟩ := cnt_more l.length
  rw [← e1] at b1 b2 b3 b4 m1 m2
  have hr : ∀ i, i < L.length → rightZ (L.getD i zP).1 (L.getD i zP).2.1 (L.getD i zP).2.2.1 (L.getD i zP).2.2.2.length = true := fun i hi => by
    obtain ⟨p0, p1, p2, _, p4, _, _⟩ := hat i hi
    rw [p0, p1, p2]
    exact right_nums h1 h2 hi b2 b3 p4 b4 m1 m2
  have hb : anyBad L L.length = false := anyBad_of fun i hi => by
    obtain ⟨p0, p1, p2, _, _, _, _⟩ := hat i hi
    obtain ⟨q0, _⟩ := hat 0 (by omega)
    unfold badAt badP
    rw [decide_eq_true ⟨hr i hi, by rw [p0, q0], p2, p1⟩]
    rfl
  have hE : joinE L = 0 := by unfold joinE; rw [if_neg (by omega), if_neg (by rw [hb]; decide)]
  refine ⟨hr, hE, ?_⟩
  unfold joinD
  rw [if_pos hE]
  have key : ∀ i, i ≤ L.length → datas (L.take i) = l.take (i * 480) := by
    intro i
    induction i with
    | zero => intro _; simp [datas]
    | succ k ih =>
      intro hi
      obtain ⟨_, _, _, p3, _, p5, _⟩ := hat k (by omega)
      rw [datas_take (by omega), ih (by omega), p3]
      exact take_step (Nat.mul_le_mul_right _ (Nat.le_succ k)) p5
  have := key L.length (Nat.le_refl _)
  rw [List.take_length] at this
  rw [this, List.take_of_length_le b3]
end Go.Proofs.Ythgdbdhonhkkpaa.Fg
