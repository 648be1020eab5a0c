/-
  style: plain laws: a style's numbers, bytes.
-/
import Derived.Test.YthgdbdhonhkkpaaTa
namespace Go.Proofs.Ythgdbdhonhkkpaa.St
open Go.RowKit Go.Proofs.Ythgdbdhonhkkpaa.V

theorem chgG_list : ∀ (a l : List Int) (s : Sty), (∀ x ∈ a, ¬ (x = 38 ∨ x = 48)) → chgG (a ++ l) s = chgG l (a.foldl plainS s)
  | [], _, _, _ => rfl
  | n :: a, l, s, h => by
    rw [List.cons_append, chgG_plain _ _ (h n (by simp)), chgG_list a l _ (fun x hx => h x (by simp [hx])), List.foldl_cons]
theorem flagT_mem (f : Nat) : ∀ (k : Nat), ∀ x ∈ flagT f k, 1 ≤ x ∧ x ≤ (k : Int)
  | 0, x, h => by simp [flagT] at h
  | k + 1, x, h => by
    rw [flagT] at h
    have ih := flagT_mem f k
    split at h
    · rcases List.mem_append.1 h with h1 | h1
      · have := ih x h1; omega
      · have : x = ((k + 1 : Nat) : Int) := by simpa using h1
        omega
    · have := ih x h; omega
theorem flagT_fold : ∀ f, f < 256 → (flagT f 9).foldl plainS (0, 0, 0) = (f, 0, 0) := by decide +kernel
theorem nums_fg {c : Nat} (l : List Int) (f b : Nat) (h : colB c = true) : chgG (nums 38 c ++ l) (f, 0, b) = chgG l (f, c, b) := by
  have hc := of_decide_eq_true h
  unfold nums
  by_cases h0 : c = 0
  · rw [if_pos h0, h0]; rfl
  rw [if_neg h0]
  by_cases h1 : c < 33554432
  · rw [if_pos h1]
    have e : colR ([5, (c : Int) - 16777216] ++ l) = (c, 2, true) := by
      unfold colR
      rw [if_pos ⟨by simp, rfl⟩]
      show ((16777216 + ((c : Int) - 16777216) % 256).toNat, 2, smallB ((c : Int) - 16777216)) = _
      rw [show smallB ((c : Int) - 16777216) = true from decide_eq_true (by omega), show (16777216 + ((c : Int) - 16777216) % 256).toNat = c from by omega]
    show chgG (38 :: ([5, (c : Int) - 16777216] ++ l)) (f, 0, b) = _
    rw [chgG_col _ _ (.inl rfl), e]
    rfl
  · rw [if_neg h1]
    have e : colR ([2, (c : Int) / 65536 % 256, (c : Int) / 256 % 256, (c : Int) % 256] ++ l) = (c, 4, true) := by
      unfold colR
      rw [if_neg (by rintro ⟨_, h⟩; cases h), if_pos ⟨by simp, rfl⟩]
      show ((33554432 + 65536 * ((c : Int) / 65536 % 256 % 256) + 256 * ((c : Int) / 256 % 256 % 256) + (c : Int) % 256 % 256).toNat, 4, smallB ((c : Int) / 65536 % 256) && smallB ((c : Int) / 256 % 256) && smallB ((c : Int) % 256)) = _
      rw [show smallB ((c : Int) / 65536 % 256) = true from decide_eq_true (by omega), show smallB ((c : Int) / 256 % 256) = true from decide_eq_true (by omega), show smallB ((c : Int) % 256) = true from decide_eq_true (by omega),
        show (33554432 + 65536 * ((c : Int) / 65536 % 256 % 256) + 256 * ((c : Int) / 256 % 256 % 256) + (c : Int) % 256 % 256).toNat = c from by omega]
      rfl
    show chgG (38 :: ([2, (c : Int) / 65536 % 256, (c : Int) / 256 % 256, (c : Int) % 256] ++ l)) (f, 0, b) = _
    rw [chgG_col _ _ (.inl rfl), e]
    rfl
theorem nums_bg {c : Nat} (l : List Int) (f a : Nat) (h : colB c = true) : chgG (nums 48 c ++ l) (f, a, 0) = chgG l (f, a, c) := by
  have hc := of_decide_eq_true h
  unfold nums
  by_cases h0 : c = 0
  · rw [if_pos h0, h0]; rfl
  rw [if_neg h0]
  by_cases h1 : c < 33554432
  · rw [if_pos h1]
    have e : colR ([5, (c : Int) - 16777216] ++ l) = (c, 2, true) := by
      unfold colR
      rw [if_pos ⟨by simp, rfl⟩]
      show ((16777216 + ((c : Int) - 16777216) % 256).toNat, 2, smallB ((c : Int) - 16777216)) = _
      rw [show smallB ((c : Int) - 16777216) = true from decide_eq_true (by omega), show (16777216 + ((c : Int) - 16777216) % 256).toNat = c from by omega]
    show chgG (48 :: ([5, (c : Int) - 16777216] ++ l)) (f, a, 0) = _
    rw [chgG_col _ _ (.inr rfl), e]
    rfl
  · rw [if_neg h1]
    have e : colR ([2, (c : Int) / 65536 % 256, (c : Int) / 256 % 256, (c : Int) % 256] ++ l) = (c, 4, true) := by
      unfold colR
      rw [if_neg (by rintro ⟨_, h⟩; cases h), if_pos ⟨by simp, rfl⟩]
      show ((33554432 + 65536 * ((c : Int) / 65536 % 256 % 256) + 256 * ((c : Int) / 256 % 256 % 256) + (c : Int) % 256 % 256).toNat, 4, smallB ((c : Int) / 65536 % 256) && smallB ((c : Int) / 256 % 256) && smallB ((c : Int) % 256)) = _
      rw [show smallB ((c : Int) / 65536 % 256) = true from decide_eq_true (by omega), show smallB ((c : Int) / 256 % 256) = true from decide_eq_true (by omega), show smallB ((c : Int) % 256) = true from decide_eq_true (by omega),
        show (33554432 + 65536 * ((c : Int) / 65536 % 256 % 256) + 256 * ((c : Int) / 256 % 256 % 256) + (c : Int) % 256 % 256).toNat = c from by omega]
      rfl
    show chgG (48 :: ([2, (c : Int) / 65536 % 256, (c : Int) / 256 % 256, (c : Int) % 256] ++ l)) (f, a, 0) = _
    rw [chgG_col _ _ (.inr rfl), e]
    rfl
/-- a style's numbers change any style into it -/
theorem chg_par (s : Sty) {t : Sty} (hr : rightB t = true) (hf : t.1 < 256) : chgS s (parR t) = t := by
  obtain ⟨f, a, b⟩ := t
  rw [rightB, Bool.and_eq_true] at hr
  rw [parR, if_pos (by rw [rightB, Bool.and_eq_true]; exact hr), chgS, if_neg (by simp)]
  show chgG (0 :: (flagT f 9 ++ nums 38 a ++ nums 48 b)) s = _
  have hm : ∀ x ∈ flagT f 9, ¬ (x = 38 ∨ x = 48) := fun x hx => by have := flagT_mem f 9 x hx; omega
  rw [chgG_plain _ _ (by omega), List.append_assoc, chgG_list _ _ _ hm, show plainS s 0 = (0, 0, 0) from rfl, flagT_fold f hf, nums_fg _ _ _ hr.1]
  have := nums_bg [] f a hr.2
  rw [List.append_nil] at this
  rw [this, chgG_nil]
theorem chg_end (s : Sty) {l : List Int} (h : ∀ x ∈ l, ¬ (x = 38 ∨ x = 48)) : chgS s (l ++ [0]) = (0, 0, 0) := by
  rw [chgS, if_neg (by simp), chgG_list _ _ _ h, chgG_plain _ _ (by omega), chgG_nil]
  rfl
theorem chg_parts (s : Sty) (l : List Int) (h : ∀ x ∈ l, ¬ (x = 38 ∨ x = 48)) (h2 : 2 ≤ l.length) : chgS (chgS s (l.take 1)) (l.drop 1) = chgS s l := by
  match l, h, h2 with
  | n :: m :: l, h, _ =>
    show chgS (chgS s [n]) (m :: l) = _
    have hn := h n (by simp)
    rw [chgS, if_neg (by simp), chgS, if_neg (by simp), chgS, if_neg (by simp), chgG_plain (n := n) [] s hn, chgG_plain (n := n) (m :: l) s hn, chgG_nil]
/-! bytes -/
theorem getR_at (l : List Int) (m : Nat) (h : m ≤ l.length) : getR l (m : Int) = if (dec (l.drop m)).2.2 = 0 then ((dec (l.drop m)).1, (m : Int) + (dec (l.drop m)).2.1, 0) else (0, 0, (dec (l.drop m)).2.2) := by
  unfold getR
  rw [if_neg (by omega), if_neg (by omega)]
  rfl
theorem col_bd {c : Nat} (h : colB c = true) : c < 50331648 := by
  have := of_decide_eq_true h
  omega
theorem wrL_ok {s : Sty} (h : s.1 < 256) : okB (wrL s) := by
  unfold wrL
  split
  · intro x hx
    simp only [List.mem_append, List.mem_singleton] at hx
    rcases hx with (rfl | hx) | hx
    · omega
    · exact putL_ok (by omega) x hx
    · exact putL_ok (by omega) x hx
  · intro x hx; cases hx
theorem read_write {s : Sty} (h : rightB s = true) (hf : s.1 < 256) : rdR (wrL s) 0 = (s, ((wrL s).length : Int), 0) := by
  obtain ⟨f, a, b⟩ := s
  have hr := h
  rw [rightB, Bool.and_eq_true] at hr
  have ha := col_bd hr.1
  have hb := col_bd hr.2
  dsimp only at ha hb hf
  have e : wrL (f, a, b) = [(f : Int)] ++ putL (a : Int) ++ putL (b : Int) := if_pos h
  have hl : (wrL (f, a, b)).length = 1 + (putL (a : Int)).length + (putL (b : Int)).length := by rw [e]; simp; omega
  have p1 := putL_pos (v := (a : Int)) (by omega)
  have d1 := dec_put (a : Int) (putL (b : Int)) (by omega) (by omega)
  have d2 := dec_put (b : Int) [] (by omega) (by omega)
  have e1 : (wrL (f, a, b)).drop 1 = putL (a : Int) ++ putL (b : Int) := by rw [e]; rfl
  have e2 : (wrL (f, a, b)).drop (1 + (putL (a : Int)).length) = putL (b : Int) ++ [] := by rw [← List.drop_drop, e1, List.drop_left, List.append_nil]
  have g1 : getR (wrL (f, a, b)) (0 + 1) = ((a : Int), 1 + ((putL (a : Int)).length : Int), 0) := by
    have := getR_at (wrL (f, a, b)) 1 (by omega)
    rw [e1, d1] at this
    exact this
  have g2 : getR (wrL (f, a, b)) (1 + ((putL (a : Int)).length : Int)) = ((b : Int), 1 + ((putL (a : Int)).length : Int) + ((putL (b : Int)).length : Int), 0) := by
    have := getR_at (wrL (f, a, b)) (1 + (putL (a : Int)).length) (by omega)
    rw [e2, d2] at this
    rw [show (1 + ((putL (a : Int)).length : Int)) = ((1 + (putL (a : Int)).length : Nat) : Int) from by omega]
    exact this
  unfold rdR
  rw [if_neg (by omega), if_neg (by omega), g1]
  dsimp only
  rw [if_neg (by omega), g2]
  dsimp only
  rw [if_neg (by omega), if_neg (by omega)]
  have h0 : ((wrL (f, a, b)).getD (0 : Int).toNat 0).toNat = f := by rw [e]; rfl
  rw [h0, Int.toNat_natCast, Int.toNat_natCast, if_pos h, hl]
  simp only [Prod.mk.injEq, true_and, and_true]
  omega
theorem getR_inv {l : List Int} {i : Int} (h : (getR l i).2.2 = 0) : ∃ m : Nat, i = (m : Int) ∧ m ≤ l.length ∧ (dec (l.drop m)).2.2 = 0 ∧ getR l i = ((dec (l.drop m)).1, (m : Int) + (dec (l.drop m)).2.1, 0) := by
  have h0 : 0 ≤ i := by
    by_cases hi : i < 0
    · unfold getR at h
      rw [if_pos hi] at h
      cases h
    · omega
  obtain ⟨m, rfl⟩ := Int.eq_ofNat_of_zero_le h0
  have h1 : m ≤ l.length := by
    by_cases hm : (l.length : Int) < (m : Int)
    · unfold getR at h
      rw [if_neg (by omega), if_pos hm] at h
      cases h
    · omega
  have e := getR_at l m h1
  by_cases hd : (dec (l.drop m)).2.2 = 0
  · rw [if_pos hd] at e
    exact ⟨m, rfl, h1, hd, e⟩
  · rw [if_neg hd] at e
    rw [e] at h
    exact absurd h hd
/-- what is read may be, and its bytes stand there -/
theorem write_read {l : List Int} (hl : okB l) {s : Sty} {n : Int} (h : rdR l 0 = (s, n, 0)) : rightB s = true ∧ s.1 < 256 ∧ s.2.1 < 50331648 ∧ s.2.2 < 50331648 ∧ 0 ≤ n ∧ n ≤ l.length ∧ wrL s = l.take n.toNat := by
  unfold rdR at h
  by_cases c0 : (0 : Int) < 0 ∨ (l.length : Int) < 0
  · omega
  rw [if_neg c0] at h
  by_cases c1 : (0 : Int) = l.length
  · rw [if_pos c1] at h; cases h
  rw [if_neg c1] at h
  by_cases c2 : (getR l (0 + 1)).2.2 ≠ 0
  · rw [if_pos c2] at h
    injection h with _ h; injection h with _ h
    exact absurd h c2
  rw [if_neg c2] at h
  by_cases c3 : (getR l (getR l (0 + 1)).2.1).2.2 ≠ 0
  · rw [if_pos c3] at h
    injection h with _ h; injection h with _ h
    exact absurd h c3
  rw [if_neg c3] at h
  by_cases c4 : 50331647 < (getR l (0 + 1)).1 ∨ 50331647 < (getR l (getR l (0 + 1)).2.1).1
  · rw [if_pos c4] at h; cases h
  rw [if_neg c4] at h
  split at h
  case isFalse => cases h
  rename_i hr
  obtain ⟨m1, i1, k1, z1, g1⟩ := getR_inv (Classical.not_not.1 c2)
  obtain rfl : m1 = 1 := by omega
  rw [g1] at c3 c4 h hr
  dsimp only at c3 c4 h hr
  obtain ⟨m2, i2, k2, z2, g2⟩ := getR_inv (Classical.not_not.1 c3)
  rw [g2] at c4 h hr
  dsimp only at c4 h hr
  have b1 : okB (l.drop 1) := fun x hx => hl x (List.mem_of_mem_drop hx)
  have b2 : okB (l.drop m2) := fun x hx => hl x (List.mem_of_mem_drop hx)
  obtain ⟨e1, p1, q1, n1⟩ := dec_back _ b1 z1
  obtain ⟨e2, p2, q2, n2⟩ := dec_back _ b2 z2
  have hx := hl.at_ 0
  match l, c1, hx with
  | [], c1, _ => simp at c1
  | x :: r, _, hx =>
    simp only [List.getD_cons_zero] at hx
    simp only [List.drop_succ_cons, List.drop_zero] at e1 p1 q1 n1 i2 h hr c4 z1
    obtain ⟨hs, hn⟩ := Prod.mk.inj h
    obtain ⟨hn, _⟩ := Prod.mk.inj hn
    simp only [Int.toNat_zero, List.getD_cons_zero] at hs hr
    obtain ⟨v1, hv1⟩ : ∃ v1, (dec r).1 = v1 := ⟨_, rfl⟩
    obtain ⟨v2, hv2⟩ : ∃ v2, (dec ((x :: r).drop m2)).1 = v2 := ⟨_, rfl⟩
    rw [hv1] at e1 p1 q1 n1 hs hr c4
    rw [hv2] at e2 p2 q2 n2 hs hr c4
    rw [n1] at i2
    rw [n1] at e1
    rw [n2] at hn e2
    have hm2 : m2 = 1 + (putL v1).length := by omega
    subst hm2
    have e3 : (x :: r).drop (1 + (putL v1).length) = r.drop (putL v1).length := by rw [Nat.add_comm, List.drop_succ_cons]
    rw [e3] at e2
    rw [Int.toNat_natCast] at e1 e2
    subst hs
    refine ⟨hr, by dsimp only; omega, by dsimp only; omega, by dsimp only; omega, by omega, ?_, ?_⟩
    · have := congrArg List.length e2
      simp only [List.length_append, List.length_drop] at this
      simp only [List.length_cons] at k2 ⊢
      omega
    · unfold wrL
      rw [if_pos hr]
      dsimp only
      rw [Int.toNat_of_nonneg hx.1, Int.toNat_of_nonneg p1, Int.toNat_of_nonneg p2, ← hn]
      have hN : (((1 + (putL v1).length : Nat) : Int) + ((putL v2).length : Int)).toNat = (putL v1).length + (putL v2).length + 1 := by omega
      rw [hN, List.take_succ_cons]
      have : r = putL v1 ++ (putL v2 ++ (r.drop (putL v1).length).drop (putL v2).length) := by rw [← e2]; exact e1
      generalize (r.drop (putL v1).length).drop (putL v2).length = z at this
      rw [this, ← List.append_assoc, List.take_append_of_le_length (by simp), List.take_of_length_le (by simp)]
      rfl
theorem read_bad {l : List Int} {i : Int} (h : (rdR l i).2.2 ≠ 0) : (rdR l i).1 = (0, 0, 0) ∧ (rdR l i).2.1 = 0 := by
  unfold rdR at h ⊢
  (repeat' split) <;> first | exact ⟨rfl, rfl⟩ | simp_all
end Go.Proofs.Ythgdbdhonhkkpaa.St
