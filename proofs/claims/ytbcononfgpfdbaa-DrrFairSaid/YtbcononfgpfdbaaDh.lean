/-
  drr: that turns are fair, in plain Lean.
-/
import Derived.Test.YtbcononfgpfdbaaDp
namespace Go.Proofs.Ytbcononfgpfdbaa.D

/-- members that the law adds -/
def seqM (q : Int) : Nat → List Mem
  | 0 => []
  | n + 1 => seqM q n ++ [((n : Int), if n = 0 then q else 0)]
theorem seqM_length (q : Int) : ∀ n, (seqM q n).length = n
  | 0 => rfl
  | n + 1 => by simp [seqM, seqM_length q n]
theorem seqM_mem {q : Int} : ∀ {n : Nat} {m : Mem}, m ∈ seqM q n → 0 ≤ m.1 ∧ m.1 < n ∧ m.2 = (if m.1 = 0 then q else 0)
  | 0, m, h => by simp [seqM] at h
  | n + 1, m, h => by
    rcases List.mem_append.1 h with h | h
    · obtain ⟨h1, h2, h3⟩ := seqM_mem h
      exact ⟨h1, by omega, h3⟩
    · obtain rfl := List.mem_singleton.1 h
      refine ⟨by simp, by simp; omega, ?_⟩
      by_cases h0 : n = 0
      · subst h0; rfl
      · rw [if_neg h0, if_neg (by simpa using h0)]
theorem seqM_all {q : Int} : ∀ {n a : Nat}, a < n → ∃ m ∈ seqM q n, m.1 = (a : Int)
  | n + 1, a, h => by
    by_cases h0 : a = n
    · subst h0
      exact ⟨_, List.mem_append_right _ (List.mem_singleton.2 rfl), rfl⟩
    · obtain ⟨m, hm, e⟩ := seqM_all (q := q) (n := n) (a := a) (by omega)
      exact ⟨m, List.mem_append_left _ hm, e⟩
theorem seqM_nodup (q : Int) : ∀ n, ((seqM q n).map (·.1)).Nodup
  | 0 => by simp [seqM]
  | n + 1 => by
    rw [seqM, List.map_append, List.nodup_append]
    refine ⟨seqM_nodup q n, by simp, fun a ha b hb => ?_⟩
    obtain ⟨m, hm, rfl⟩ := List.mem_map.1 ha
    obtain rfl : b = (n : Int) := by simpa using hb
    have := (seqM_mem hm).2.1
    omega
theorem addP_seq (q : Int) (n : Nat) (h : n < 16) : addP q (seqM q n) (n : Int) = (0, seqM q (n + 1)) := by
  unfold addP
  rw [if_neg (fun h1 => by obtain ⟨m, hm, e⟩ := fnd_lt.1 h1; have := (seqM_mem hm).2.1; omega), seqM_length, if_neg (by omega)]
  by_cases h0 : n = 0
  · subst h0; rfl
  · rw [if_neg h0, seqM, if_neg h0]

/-- what holds of members and what they spent -/
structure Fair (q M : Int) (k : Nat) (L : List Mem) (S : List Int) : Prop where
  len : L.length = k
  ids : (L.map (·.1)).Nodup
  low : ∀ m ∈ L, 0 ≤ m.1 ∧ m.1 < k
  all : ∀ a : Nat, a < k → ∃ m ∈ L, m.1 = (a : Int)
  pos : ∀ m ∈ L, 0 ≤ m.2
  turns : ∃ T : Int → Int, (∀ m ∈ L, S.getD m.1.toNat 0 = T m.1 * q - m.2) ∧ ∀ h r, L = h :: r → h.2 < q + M ∧ (∀ m ∈ r, m.2 < M ∧ T h.1 - 1 ≤ T m.1 ∧ T m.1 ≤ T h.1) ∧ r.Pairwise (fun a b => T a.1 ≤ T b.1)
def T0 (x : Int) : Int := if x = 0 then 1 else 0
def upT (T : Int → Int) (a x : Int) : Int := if x = a then T x + 1 else T x
theorem upT_same (T : Int → Int) (a : Int) : upT T a a = T a + 1 := if_pos rfl
theorem upT_ne (T : Int → Int) {a x : Int} (h : x ≠ a) : upT T a x = T x := if_neg h
theorem fair_start (q M : Int) (k : Nat) (hq : 1 ≤ q) (hM : 1 ≤ M) (hk : 1 ≤ k) : Fair q M k (seqM q k) (List.replicate 16 0) := by
  refine ⟨seqM_length _ _, seqM_nodup _ _, fun m hm => ⟨(seqM_mem hm).1, (seqM_mem hm).2.1⟩, fun a ha => seqM_all ha, fun m hm => ?_, T0, fun m hm => ?_, fun h r hl => ?_⟩
  · rw [(seqM_mem hm).2.2]; split <;> omega
  · have e : (List.replicate 16 (0 : Int)).getD m.1.toNat 0 = 0 := by
      rw [List.getD_eq_getElem?_getD, List.getElem?_replicate]
      split <;> rfl
    rw [e, (seqM_mem hm).2.2]
    unfold T0
    split
    · omega
    · omega
  · have hh : h.1 = 0 := by
      obtain ⟨k', rfl⟩ : ∃ k', k = k' + 1 := ⟨k - 1, by omega⟩
      have : ∀ n, ∃ r, seqM q (n + 1) = (0, q) :: r := fun n => by
        induction n with
        | zero => exact ⟨[], rfl⟩
        | succ n ih =>
          obtain ⟨r, hr⟩ := ih
          exact ⟨_, by rw [seqM, hr]; rfl⟩
      obtain ⟨r', hr'⟩ := this k'
      rw [hr'] at hl
      injection hl with hl _
      rw [← hl]
    have hn := seqM_nodup q k
    have hmem : ∀ m ∈ h :: r, m ∈ seqM q k := fun m hm => by rw [hl]; exact hm
    rw [hl] at hn
    have hz : ∀ m ∈ r, m.1 ≠ 0 := fun m hm e => by
      have this : h.1 ∉ r.map (·.1) := (List.nodup_cons.1 hn).1
      exact this (List.mem_map.2 ⟨m, hm, by rw [e, hh]⟩)
    refine ⟨?_, fun m hm => ?_, ?_⟩
    · have := (seqM_mem (hmem h (by simp))).2.2
      rw [if_pos hh] at this
      omega
    · have := (seqM_mem (hmem m (by simp [hm]))).2.2
      rw [if_neg (hz m hm)] at this
      unfold T0
      rw [if_pos hh, if_neg (hz m hm)]
      omega
    · refine List.pairwise_of_forall_mem_list (fun a ha b hb => ?_)
      unfold T0
      rw [if_neg (hz a ha), if_neg (hz b hb)]
      omega
theorem getD_set (S : List Int) (i j : Nat) (x : Int) (hi : i < S.length) : (S.set i x).getD j 0 = if i = j then x else S.getD j 0 := by
  simp only [List.getD_eq_getElem?_getD, List.getElem?_set]
  split
  · subst_vars; simp [hi]
  · rfl
theorem Fair.spend {q M : Int} {k : Nat} {h : Mem} {r : List Mem} {S : List Int} {c : Int} (F : Fair q M k (h :: r) S) (hk : k ≤ S.length) (hc : c ≤ h.2) (h1 : 1 ≤ c) :
    Fair q M k ((h.1, h.2 - c) :: r) (S.set h.1.toNat (S.getD h.1.toNat 0 + c)) := by
  obtain ⟨T, h2, h3⟩ := F.turns
  have hh := F.low h (by simp)
  have hne : ∀ m ∈ r, m.1.toNat ≠ h.1.toNat := fun m hm e => by
    have this : h.1 ∉ r.map (·.1) := (List.nodup_cons.1 F.ids).1
    have hm' := F.low m (by simp [hm])
    exact this (List.mem_map.2 ⟨m, hm, by omega⟩)
  refine ⟨F.len, F.ids, ?_, ?_, ?_, T, ?_, ?_⟩
  · intro m hm
    rcases List.mem_cons.1 hm with rfl | hm
    · exact hh
    · exact F.low m (by simp [hm])
  · intro a ha
    obtain ⟨m, hm, e⟩ := F.all a ha
    rcases List.mem_cons.1 hm with rfl | hm
    · exact ⟨_, List.mem_cons_self, e⟩
    · exact ⟨m, by simp [hm], e⟩
  · intro m hm
    rcases List.mem_cons.1 hm with rfl | hm
    · show 0 ≤ h.2 - c; omega
    · exact F.pos m (by simp [hm])
  · intro m hm
    rcases List.mem_cons.1 hm with rfl | hm
    · rw [getD_set _ _ _ _ (by omega), if_pos rfl, h2 h (by simp)]
      show _ = T h.1 * q - (h.2 - c)
      omega
    · rw [getD_set _ _ _ _ (by omega), if_neg (Ne.symm (hne m hm))]
      exact h2 m (by simp [hm])
  · intro h' r' e
    injection e with e1 e2
    subst e1 e2
    obtain ⟨a1, a2, a3⟩ := h3 h r rfl
    exact ⟨by show h.2 - c < _; omega, a2, a3⟩
theorem Fair.pass {q M : Int} {k : Nat} {h : Mem} {r : List Mem} {S : List Int} {c : Int} (F : Fair q M k (h :: r) S) (hq : 1 ≤ q) (hc : h.2 < c) (h1 : c ≤ M) : Fair q M k (beg q (r ++ [h])) S := by
  obtain ⟨T, h2, h3⟩ := F.turns
  obtain ⟨a1, a2, a3⟩ := h3 h r rfl
  have hperm : ∀ m, m ∈ r ++ [h] ↔ m ∈ h :: r := fun m => by simp [or_comm]
  have hids : (beg q (r ++ [h])).map (·.1) = r.map (·.1) ++ [h.1] := by rw [beg_ids]; simp
  have hmem : ∀ {m : Mem}, m ∈ beg q (r ++ [h]) → ∃ m' ∈ h :: r, m'.1 = m.1 := fun {m} hm => by
    have : m.1 ∈ (beg q (r ++ [h])).map (·.1) := List.mem_map.2 ⟨m, hm, rfl⟩
    rw [beg_ids] at this
    obtain ⟨m', hm', e⟩ := List.mem_map.1 this
    exact ⟨m', (hperm m').1 hm', e⟩
  have hnd : (r.map (·.1) ++ [h.1]).Nodup := by
    have h4 := List.nodup_cons.1 F.ids
    rw [List.nodup_append]
    refine ⟨h4.2, by simp, fun a ha b hb => ?_⟩
    obtain rfl : b = h.1 := by simpa using hb
    rintro rfl
    exact h4.1 ha
  refine ⟨?_, by rw [hids]; exact hnd, ?_, ?_, ?_, ?_⟩
  · rw [beg_length]; have := F.len; simpa using this
  · intro m hm
    obtain ⟨m', h5, e⟩ := hmem hm
    rw [← e]; exact F.low m' h5
  · intro a ha
    obtain ⟨m, hm, e⟩ := F.all a ha
    have : m.1 ∈ (beg q (r ++ [h])).map (·.1) := by rw [beg_ids]; exact List.mem_map.2 ⟨m, (hperm m).2 hm, rfl⟩
    obtain ⟨m', hm', e'⟩ := List.mem_map.1 this
    exact ⟨m', hm', by rw [e', e]⟩
  · intro m hm
    cases hr : r ++ [h] with
    | nil => rw [hr] at hm; cases hm
    | cons a r' =>
      have hp := fun x (hx : x ∈ a :: r') => F.pos x ((hperm x).1 (by rw [hr]; exact hx))
      rw [hr] at hm
      rcases List.mem_cons.1 hm with rfl | hm
      · have := hp a (by simp); show 0 ≤ a.2 + q; omega
      · exact hp m (by simp [hm])
  · cases r with
    | nil =>
      refine ⟨upT T h.1, ?_, ?_⟩
      · intro m hm
        obtain rfl : m = (h.1, h.2 + q) := by simpa [beg] using hm
        have := h2 h (by simp)
        show S.getD h.1.toNat 0 = upT T h.1 h.1 * q - (h.2 + q)
        rw [upT_same, this, Int.add_mul]
        show _ = _ - (h.2 + q)
        omega
      · intro h' r' e
        have e' : (h.1, h.2 + q) :: [] = h' :: r' := e
        injection e' with e1 e2
        subst e1 e2
        exact ⟨by show h.2 + q < _; omega, by simp, by simp⟩
    | cons a r =>
      have hb : beg q (a :: r ++ [h]) = (a.1, a.2 + q) :: (r ++ [h]) := rfl
      rw [hb]
      have hn4 := List.nodup_cons.1 F.ids
      have hn5 := List.nodup_cons.1 hn4.2
      have hah : a.1 ≠ h.1 := fun e => hn4.1 (by simp [e])
      have har : ∀ m ∈ r, m.1 ≠ a.1 := fun m hm e => hn5.1 (List.mem_map.2 ⟨m, hm, e⟩)
      have ha := a2 a (by simp)
      have hp3 := List.pairwise_cons.1 a3
      refine ⟨upT T a.1, ?_, ?_⟩
      · intro m hm
        rcases List.mem_cons.1 hm with rfl | hm
        · have := h2 a (by simp)
          show S.getD a.1.toNat 0 = upT T a.1 a.1 * q - (a.2 + q)
          rw [upT_same, this, Int.add_mul]
          show _ = _ - (a.2 + q)
          omega
        · rcases List.mem_append.1 hm with hm | hm
          · rw [upT_ne T (har m hm)]
            exact h2 m (by simp [hm])
          · obtain rfl := List.mem_singleton.1 hm
            rw [upT_ne T (Ne.symm hah)]
            exact h2 m (by simp)
      · intro h' r' e
        injection e with e1 e2
        subst e1 e2
        have eT : ∀ m ∈ r ++ [h], upT T a.1 m.1 = T m.1 := fun m hm => by
          rcases List.mem_append.1 hm with hm | hm
          · rw [upT_ne T (har m hm)]
          · obtain rfl := List.mem_singleton.1 hm
            rw [upT_ne T (Ne.symm hah)]
        refine ⟨by show a.2 + q < _; omega, fun m hm => ?_, ?_⟩
        · rw [eT m hm, show upT T a.1 (a.1, a.2 + q).1 = T a.1 + 1 from upT_same T a.1]
          rcases List.mem_append.1 hm with hm | hm
          · have b1 := a2 m (by simp [hm])
            have b2 := hp3.1 m hm
            exact ⟨b1.1, by omega, by omega⟩
          · obtain rfl := List.mem_singleton.1 hm
            exact ⟨by omega, by omega, by omega⟩
        · rw [List.pairwise_append]
          refine ⟨?_, by simp, fun x hx y hy => ?_⟩
          · refine hp3.2.imp_of_mem (fun {x y} hx hy hxy => ?_)
            rw [eT x (by simp [hx]), eT y (by simp [hy])]
            exact hxy
          · obtain rfl := List.mem_singleton.1 hy
            rw [eT x (by simp [hx]), eT y (by simp)]
            exact (a2 x (by simp [hx])).2.2
theorem Fair.diff {q M : Int} {k : Nat} {L : List Mem} {S : List Int} (F : Fair q M k L S) (hq : 1 ≤ q) (hM : 1 ≤ M) {a b : Nat} (ha : a < k) (hb : b < k) : S.getD a 0 - S.getD b 0 < q + M := by
  obtain ⟨T, h2, h3⟩ := F.turns
  obtain ⟨x, hx, ex⟩ := F.all a ha
  obtain ⟨y, hy, ey⟩ := F.all b hb
  have e1 := h2 x hx
  have e2 := h2 y hy
  rw [ex] at e1
  rw [ey] at e2
  simp only [Int.toNat_natCast] at e1 e2
  have p1 := F.pos x hx
  have p2 := F.pos y hy
  cases L with
  | nil => cases hx
  | cons h r =>
    obtain ⟨a1, a2, a3⟩ := h3 h r rfl
    rw [e1, e2]
    by_cases hab : a = b
    · subst hab
      have hxy : x = y := by
        rcases List.mem_cons.1 hx with hx' | hx' <;> rcases List.mem_cons.1 hy with hy' | hy'
        · rw [hx', hy']
        · subst hx'
          exact absurd (show x.1 ∈ r.map (·.1) from List.mem_map.2 ⟨y, hy', ey.trans ex.symm⟩) (List.nodup_cons.1 F.ids).1
        · subst hy'
          exact absurd (show y.1 ∈ r.map (·.1) from List.mem_map.2 ⟨x, hx', ex.trans ey.symm⟩) (List.nodup_cons.1 F.ids).1
        · exact Prod.ext (ex.trans ey.symm) (by omega)
      subst hxy
      omega
    · have hyb : y.2 < q + M ∧ (y ∈ r → y.2 < M) := by
        rcases List.mem_cons.1 hy with rfl | hy
        · exact ⟨a1, fun h => (a2 _ h).1⟩
        · have := a2 y hy
          exact ⟨by omega, fun _ => this.1⟩
      have hT : T (a : Int) - T (b : Int) ≤ 1 ∧ (T (a : Int) - T (b : Int) = 1 → y ∈ r) := by
        rcases List.mem_cons.1 hx with hx' | hx' <;> rcases List.mem_cons.1 hy with hy' | hy'
        · rw [hx'] at ex
          rw [hy'] at ey
          omega
        · rw [hx'] at ex
          have := a2 y hy'
          rw [ex, ey] at this
          exact ⟨by omega, fun _ => hy'⟩
        · rw [hy'] at ey
          have := a2 x hx'
          rw [ex, ey] at this
          exact ⟨by omega, fun h => by omega⟩
        · have b1 := a2 x hx'
          have b2 := a2 y hy'
          rw [ex] at b1
          rw [ey] at b2
          exact ⟨by omega, fun _ => hy'⟩
      generalize T (a : Int) = ta at *
      generalize T (b : Int) = tb at *
      have hm : ta * q - tb * q = (ta - tb) * q := (Int.sub_mul ta tb q).symm
      by_cases h1 : ta - tb = 1
      · have := hyb.2 (hT.2 h1)
        rw [h1, Int.one_mul] at hm
        omega
      · have : (ta - tb) * q ≤ 0 := by
          have : 0 ≤ (tb - ta) * q := Int.mul_nonneg (by omega) (by omega)
          have e : (tb - ta) * q = -((ta - tb) * q) := by rw [← Int.neg_mul]; congr 1; omega
          omega
        omega
end Go.Proofs.Ytbcononfgpfdbaa.D
