/-
  vint: fields go there and back: plain laws over lists.
-/
import Derived.Test.YtigbmbmngkmdlaaP
import Derived.Test.YtigbmbmngkmdlaaFl
namespace Go.Proofs.Ytigbmbmngkmdlaa.V
open Go.RowKit Go.Proofs.Ytigbmbmngkmdlaa.L Go.Proofs.YtigbmbmngkmdlaaW.PrintWords

theorem flds_len_le : ∀ (k : Nat) (r : List Int) (acc : List Fld), acc.length ≤ 128 → (fldsL k r acc).1.length ≤ 128
  | 0, _, acc, h => by simpa [fldsL] using h
  | k + 1, [], acc, h => by simpa [fldsL] using h
  | k + 1, t :: r, acc, h => by
    rw [fldsL]
    split
    · simp
    · split
      · simp
      · split
        · simp
        · split
          · simp
          · exact flds_len_le k _ _ (by simp; omega)

/-- the bytes of fields, one behind the other -/
def catF (l : List Fld) : List Int := l.flatMap (fun f => [f.1] ++ putL f.2.length ++ f.2)
def shortF (l : List Fld) : Prop := ∀ f ∈ l, f.2.length ≤ 16384
theorem pf_cat : ∀ (l : List Fld) (acc : List Int), shortF l → pfL l acc = (acc ++ catF l, 0)
  | [], acc, _ => by simp [pfL, catF]
  | f :: l, acc, h => by
    have hf := h f (by simp)
    rw [pfL, if_neg (by omega), pf_cat l _ (fun x hx => h x (by simp [hx]))]
    simp [catF]
theorem pf_short : ∀ (l : List Fld) (acc : List Int), (pfL l acc).2 = 0 → shortF l
  | [], acc, _ => fun f hf => by cases hf
  | f :: l, acc, h => by
    rw [pfL] at h
    split at h
    · simp at h
    · intro x hx
      rcases List.mem_cons.1 hx with rfl | hx
      · omega
      · exact pf_short l _ h x hx
theorem flds_cat : ∀ (l : List Fld) (k : Nat) (acc : List Fld), shortF l → acc.length + l.length ≤ 128 → (catF l).length < k → fldsL k (catF l) acc = (acc ++ l, 0)
  | [], 0, _, _, _, h => by simp [catF] at h
  | [], k + 1, acc, _, _, _ => by simp [catF, fldsL]
  | f :: l, 0, _, _, _, h => by omega
  | f :: l, k + 1, acc, hs, hl, h => by
    obtain ⟨t, d⟩ := f
    have hd := hs (t, d) (by simp)
    have e : catF ((t, d) :: l) = t :: (putL d.length ++ (d ++ catF l)) := by simp [catF]
    simp only at hd
    rw [e, fldsL, if_neg (by simp at hl; omega), dec_put (d.length : Int) _ (by omega) (by omega)]
    simp only [ne_eq, not_true_eq_false, if_false, Int.toNat_natCast, List.drop_left, List.take_left]
    rw [if_neg (by omega), if_neg (by simp; omega), flds_cat l k (acc ++ [(t, d)]) (fun x hx => hs x (by simp [hx])) (by simp at hl ⊢; omega) (by rw [e] at h; simp at h ⊢; omega)]
    simp
theorem flds_back : ∀ (k : Nat) (r : List Int) (acc : List Fld), okB r → r.length < k → (fldsL k r acc).2 = 0 → ∃ l, (fldsL k r acc).1 = acc ++ l ∧ shortF l ∧ catF l = r
  | 0, r, _, _, h, _ => by omega
  | k + 1, [], acc, _, _, _ => ⟨[], by simp [fldsL], (fun f hf => by cases hf), rfl⟩
  | k + 1, t :: r, acc, hb, h, he => by
    have hbr : okB r := fun x hx => hb x (by simp [hx])
    rw [fldsL] at he ⊢
    by_cases h0 : acc.length = 128
    · rw [if_pos h0] at he; simp at he
    rw [if_neg h0] at he ⊢
    by_cases h1 : (dec r).2.2 ≠ 0
    · rw [if_pos h1] at he; exact absurd he h1
    rw [if_neg h1] at he ⊢
    have h1' : (dec r).2.2 = 0 := by simpa using h1
    by_cases h2 : 16384 < (dec r).1
    · rw [if_pos h2] at he; simp at he
    rw [if_neg h2] at he ⊢
    by_cases h3 : ((r.drop (dec r).2.1.toNat).length : Int) < (dec r).1
    · rw [if_pos h3] at he; simp at he
    rw [if_neg h3] at he ⊢
    obtain ⟨e1, p0, _, _⟩ := dec_back r hbr h1'
    generalize hr' : r.drop (dec r).2.1.toNat = r' at *
    generalize (dec r).1 = x at *
    obtain ⟨n, rfl⟩ : ∃ n : Nat, x = n := ⟨_, (Int.toNat_of_nonneg p0).symm⟩
    have hb' : okB r' := fun y hy => hbr y (by rw [e1]; simp [hy])
    rw [Int.toNat_natCast] at he ⊢
    have hle : r'.length ≤ r.length := by rw [e1]; simp
    obtain ⟨l, g1, g2, g3⟩ := flds_back k (r'.drop n) (acc ++ [(t, r'.take n)]) (fun y hy => hb' y (List.mem_of_mem_drop hy)) (by simp at h ⊢; omega) he
    have hlen : (r'.take n).length = n := by rw [List.length_take]; omega
    refine ⟨(t, r'.take n) :: l, by rw [g1]; simp, ?_, ?_⟩
    · intro f hf
      rcases List.mem_cons.1 hf with rfl | hf
      · show (r'.take n).length ≤ 16384
        omega
      · exact g2 f hf
    · have : catF ((t, r'.take n) :: l) = t :: (putL ((r'.take n).length : Nat) ++ (r'.take n ++ catF l)) := by simp [catF]
      rw [this, hlen, g3, List.take_append_drop, ← e1]
theorem fldsR_pfR {l : List Fld} (h : (pfR l).2 = 0) : fldsR (pfR l).1 = (l, 0) := by
  unfold pfR at h ⊢
  by_cases h1 : 128 < l.length
  · rw [if_pos h1] at h; simp at h
  rw [if_neg h1] at h ⊢
  have hs := pf_short l [] h
  rw [pf_cat l [] hs, List.nil_append]
  show fldsL ((catF l).length + 1) (catF l) [] = _
  rw [flds_cat l _ [] hs (by simp; omega) (by omega)]
  simp
theorem pfR_fldsR {b : List Int} (hb : okB b) (h : (fldsR b).2 = 0) : pfR (fldsR b).1 = (b, 0) := by
  obtain ⟨l, g1, g2, g3⟩ := flds_back (b.length + 1) b [] hb (by omega) h
  have hle := flds_len_le (b.length + 1) b [] (by simp)
  rw [g1] at hle
  show pfR (fldsL (b.length + 1) b []).1 = _
  rw [g1]
  simp only [List.nil_append] at hle ⊢
  unfold pfR
  rw [if_neg (by omega), pf_cat l [] g2, g3, List.nil_append]
def okF2 (l : List Fld) : Prop := ∀ f ∈ l, (0 ≤ f.1 ∧ f.1 < 256) ∧ okB f.2
theorem catF_ok : ∀ {l : List Fld}, okF2 l → okB (catF l) := fun {l} h x hx => by
  simp only [catF, List.mem_flatMap] at hx
  obtain ⟨f, hf, hx⟩ := hx
  have hff := h f hf
  simp only [List.mem_append, List.mem_singleton] at hx
  rcases hx with (rfl | hx) | hx
  · exact hff.1
  · exact putL_ok (by omega) x hx
  · exact hff.2 x hx
theorem catF_len : ∀ {l : List Fld}, shortF l → (catF l).length ≤ 17000 * l.length
  | [], _ => by simp [catF]
  | f :: l, h => by
    have h1 := h f (by simp)
    have h2 := catF_len (l := l) (fun x hx => h x (by simp [hx]))
    have h8 := putL_len f.2.length
    show ([f.1] ++ putL f.2.length ++ f.2 ++ catF l).length ≤ _
    simp only [List.length_append, List.length_cons, List.length_nil]
    omega
theorem pfR_good {l : List Fld} (h : (pfR l).2 = 0) (ho : okF2 l) : okB (pfR l).1 ∧ (pfR l).1.length ≤ 3000000 := by
  unfold pfR at h ⊢
  by_cases h1 : 128 < l.length
  · rw [if_pos h1] at h; simp at h
  rw [if_neg h1] at h ⊢
  have hs := pf_short l [] h
  rw [pf_cat l [] hs, List.nil_append]
  exact ⟨catF_ok ho, by have := catF_len hs; show (catF l).length ≤ 3000000; omega⟩
end Go.Proofs.Ytigbmbmngkmdlaa.V
