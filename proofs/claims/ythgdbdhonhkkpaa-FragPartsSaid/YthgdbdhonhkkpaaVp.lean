/-
  vint: numbers go there and back: plain laws over lists (for seats that have no fields).
-/
import Derived.Test.YthgdbdhonhkkpaaVd
namespace Go.Proofs.Ythgdbdhonhkkpaa.V
open Go.RowKit Go.Proofs.Ythgdbdhonhkkpaa.L Go.Proofs.YthgdbdhonhkkpaaW.PrintWords

theorem dec_len : ∀ (r : List Int), (dec r).2.2 = 0 → 1 ≤ (dec r).2.1 ∧ (dec r).2.1 ≤ r.length := by
  intro r h
  unfold dec at h ⊢
  (repeat' split at h) <;> (first | (simp at h; done) | skip) <;> (repeat' split) <;> simp_all <;> omega
theorem dec_bd : ∀ (r : List Int), okB r → 0 ≤ (dec r).1 ∧ (dec r).1 < 4611686018427387904 := by
  intro r h
  have hx : ∀ y z : Int, siz y = z → z ≠ 0 → y < 4611686018427387904 := by
    intro y z h1 h2
    apply Classical.byContradiction
    intro h3
    rw [siz0 (by omega)] at h1
    omega
  unfold dec
  (repeat' split) <;> (first | (simp; done) | skip)
  all_goals simp only [okB, List.forall_mem_cons] at h
  · simp only; omega
  all_goals
    have := hx _ _ (by assumption) (by decide)
    simp only
    omega
theorem siz1_inv {v : Int} (h : siz v = 1) : v < 64 := by unfold siz at h; (repeat' split at h) <;> omega
theorem siz2_inv {v : Int} (h : siz v = 2) : 64 ≤ v ∧ v < 16384 := by unfold siz at h; (repeat' split at h) <;> omega
theorem siz4_inv {v : Int} (h : siz v = 4) : 16384 ≤ v ∧ v < 1073741824 := by unfold siz at h; (repeat' split at h) <;> omega
theorem siz8_inv {v : Int} (h : siz v = 8) : 1073741824 ≤ v ∧ v < 4611686018427387904 := by unfold siz at h; (repeat' split at h) <;> omega
theorem putL1 {v : Int} (h : v < 64) : putL v = [v] := by unfold putL; rw [if_pos h]
theorem putL2 {v : Int} (h0 : 64 ≤ v) (h : v < 16384) : putL v = [64 + v / 256, v % 256] := by unfold putL; rw [if_neg (by omega), if_pos h]
theorem putL4 {v : Int} (h0 : 16384 ≤ v) (h : v < 1073741824) : putL v = [128 + v / 16777216, v / 65536 % 256, v / 256 % 256, v % 256] := by unfold putL; rw [if_neg (by omega), if_neg (by omega), if_pos h]
theorem putL8 {v : Int} (h0 : 1073741824 ≤ v) (h : v < 4611686018427387904) : putL v = [192 + v / 72057594037927936, v / 281474976710656 % 256, v / 1099511627776 % 256, v / 4294967296 % 256, v / 16777216 % 256, v / 65536 % 256, v / 256 % 256, v % 256] := by
  unfold putL; rw [if_neg (by omega), if_neg (by omega), if_neg (by omega), if_pos h]
theorem putL0 {v : Int} (h0 : 4611686018427387904 ≤ v) : putL v = [] := by unfold putL; rw [if_neg (by omega), if_neg (by omega), if_neg (by omega), if_neg (by omega)]
theorem putL_ok {v : Int} (h0 : 0 ≤ v) : okB (putL v) := by
  unfold putL
  (repeat' split) <;> simp [okB] <;> omega
theorem putL_pos {v : Int} (h : v < 4611686018427387904) : 0 < (putL v).length := by
  unfold putL
  (repeat' split) <;> simp

theorem dec_put (v : Int) (r : List Int) (h0 : 0 ≤ v) (h : v < 4611686018427387904) : dec (putL v ++ r) = (v, ((putL v).length : Int), 0) := by
  by_cases h1 : v < 64
  · rw [putL1 h1]; simp only [List.cons_append, List.nil_append, dec]; rw [if_pos h1]; rfl
  by_cases h2 : v < 16384
  · rw [putL2 (by omega) h2]; simp only [List.cons_append, List.nil_append, dec]
    rw [if_neg (by omega), if_pos (by omega), show (64 + v / 256 - 64) * 256 + v % 256 = v from by omega, if_pos (siz2 (by omega) h2)]; rfl
  by_cases h3 : v < 1073741824
  · rw [putL4 (by omega) h3]; simp only [List.cons_append, List.nil_append, dec]
    rw [if_neg (by omega), if_neg (by omega), if_pos (by omega), show (((128 + v / 16777216 - 128) * 256 + v / 65536 % 256) * 256 + v / 256 % 256) * 256 + v % 256 = v from by omega, if_pos (siz4 (by omega) h3)]; rfl
  · rw [putL8 (by omega) h]; simp only [List.cons_append, List.nil_append, dec]
    rw [if_neg (by omega), if_neg (by omega), if_neg (by omega), show (((((((192 + v / 72057594037927936 - 192) * 256 + v / 281474976710656 % 256) * 256 + v / 1099511627776 % 256) * 256 + v / 4294967296 % 256) * 256 + v / 16777216 % 256) * 256 + v / 65536 % 256) * 256 + v / 256 % 256) * 256 + v % 256 = v from by omega, if_pos (siz8 (by omega) h)]; rfl

theorem dec_back (r : List Int) (hb : okB r) (he : (dec r).2.2 = 0) : r = putL (dec r).1 ++ r.drop (dec r).2.1.toNat ∧ 0 ≤ (dec r).1 ∧ (dec r).1 < 4611686018427387904 ∧ (dec r).2.1 = ((putL (dec r).1).length : Int) := by
  have hbd := dec_bd r hb
  suffices h : r = putL (dec r).1 ++ r.drop (dec r).2.1.toNat ∧ (dec r).2.1 = ((putL (dec r).1).length : Int) from ⟨h.1, hbd.1, hbd.2, h.2⟩
  clear hbd
  unfold dec at he ⊢
  split at he
  · simp at he
  rename_i x r
  by_cases h1 : x < 64
  · simp only [if_pos h1, putL1 h1]; simp
  simp only [if_neg h1] at he ⊢
  by_cases h2 : x < 128
  · simp only [if_pos h2] at he ⊢
    match r, he with
    | y :: r', he =>
      simp only at he ⊢
      by_cases hs : siz ((x - 64) * 256 + y) = 2
      · simp only [if_pos hs]
        have b := hb y (by simp)
        rw [putL2 (siz2_inv hs).1 (siz2_inv hs).2]
        simp
        omega
      · simp [if_neg hs] at he
    | [], he => simp at he
  simp only [if_neg h2] at he ⊢
  by_cases h3 : x < 192
  · simp only [if_pos h3] at he ⊢
    match r, he with
    | a :: b :: c :: r', he =>
      simp only at he ⊢
      by_cases hs : siz ((((x - 128) * 256 + a) * 256 + b) * 256 + c) = 4
      · simp only [if_pos hs]
        have ba := hb a (by simp)
        have bb := hb b (by simp)
        have bc := hb c (by simp)
        rw [putL4 (siz4_inv hs).1 (siz4_inv hs).2]
        simp
        omega
      · simp [if_neg hs] at he
    | [], he | [_], he | [_, _], he => simp at he
  · simp only [if_neg h3] at he ⊢
    match r, he with
    | a :: b :: c :: d :: e :: f :: g :: r', he =>
      simp only at he ⊢
      by_cases hs : siz ((((((((x - 192) * 256 + a) * 256 + b) * 256 + c) * 256 + d) * 256 + e) * 256 + f) * 256 + g) = 8
      · simp only [if_pos hs]
        have ba := hb a (by simp)
        have bb := hb b (by simp)
        have bc := hb c (by simp)
        have bd := hb d (by simp)
        have be := hb e (by simp)
        have bf := hb f (by simp)
        have bg := hb g (by simp)
        rw [putL8 (siz8_inv hs).1 (siz8_inv hs).2]
        simp
        omega
      · simp [if_neg hs] at he
    | [], he | [_], he | [_, _], he | [_, _, _], he | [_, _, _, _], he | [_, _, _, _, _], he | [_, _, _, _, _, _], he => simp at he
end Go.Proofs.Ythgdbdhonhkkpaa.V
