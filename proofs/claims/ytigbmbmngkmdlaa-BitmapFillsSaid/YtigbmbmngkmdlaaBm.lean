/-
  bitmap: what bytes tell, both ways: plain laws.
-/
import Derived.Test.YtigbmbmngkmdlaaBl
import Derived.Laws.Strings
namespace Go.Proofs.Ytigbmbmngkmdlaa.Bm
open Go.RowKit Go.Proofs.Ytigbmbmngkmdlaa.L Go.Proofs.Ytigbmbmngkmdlaa.Bt Go.Proofs.YtigbmbmngkmdlaaW.PrintWords

theorem toList_inj {a b : ByteArray} (h : a.data.toList = b.data.toList) : a = b := by
  cases a; cases b
  simp only at h
  congr 1
  exact Array.ext' h
theorem str_eq {a b : List Int} (ha : okB a) (hb : okB b) (h : strOfNums a = strOfNums b) : a = b := by
  have h1 := congrArg (fun s : ByteArray => s.data.toList) h
  simp only [strOfNums_data] at h1
  have hl : a.length = b.length := by simpa using congrArg List.length h1
  apply List.ext_getElem hl
  intro i hi hi'
  have h2 : (a.map fun n => UInt8.ofNat n.toNat)[i]? = (b.map fun n => UInt8.ofNat n.toNat)[i]? := by rw [h1]
  simp only [List.getElem?_map, List.getElem?_eq_getElem hi, List.getElem?_eq_getElem hi', Option.map_some, Option.some.injEq] at h2
  have h3 := congrArg UInt8.toNat h2
  have p := ha _ (List.getElem_mem hi)
  have q := hb _ (List.getElem_mem hi')
  simp only [UInt8.toNat_ofNat'] at h3
  omega
theorem bytes_list_inj {a b : ByteArray} (h : a.toList = b.toList) : a = b := toList_inj (by rw [← ByteArray.toList_eq, ← ByteArray.toList_eq, h])
theorem str_beq {a b : List Int} (ha : okB a) (hb : okB b) : ((strOfNums a).toList == (strOfNums b).toList) = decide (a = b) := by
  by_cases h : a = b
  · subst h; simp
  · rw [decide_eq_false h]
    rw [beq_eq_false_iff_ne]
    exact fun e => h (str_eq ha hb (bytes_list_inj e))
theorem byts_ok (x q : Nat) : okB (byts x q) := fun y hy => by
  simp only [byts, List.mem_map] at hy
  obtain ⟨i, _, rfl⟩ := hy
  have := Nat.mod_lt (x / 2 ^ (8 * i)) (show 0 < 256 by decide)
  omega
theorem putM_ok {n : Nat} (x : Nat) (h : n ≤ 64) : okB (putM n x) := fun y hy => by
  rw [putM_byts] at hy
  rcases List.mem_cons.1 hy with rfl | hy
  · omega
  · exact byts_ok x _ y hy
theorem asm_byts (y : Nat) : ∀ q, asm (byts y q) = y % 2 ^ (8 * q)
  | 0 => by simp [byts, asm, Nat.mod_one]
  | q + 1 => by
    rw [byts_succ, asm_snoc, asm_byts y q, byts_len, Int.toNat_natCast, show 8 * (q + 1) = 8 * q + 8 from by omega, Nat.pow_add, Nat.mod_mul]
theorem byts_asm {r : List Int} (h : okB r) : byts (asm r) r.length = r := by
  apply List.ext_getElem (by simp [byts])
  intro i hi hi'
  have := asm_byte h i hi'
  rw [List.getD_eq_getElem?_getD, List.getElem?_eq_getElem hi'] at this
  simpa [byts] using this
theorem put_iff {n : Nat} {r : List Int} (hr : okB r) : putM n (asm r % 2 ^ n) = (n : Int) :: r ↔ r.length = (n + 7) / 8 ∧ asm r < 2 ^ n := by
  rw [putM_byts]
  constructor
  · intro h
    injection h with _ h
    have hl : (n + 7) / 8 = r.length := by rw [← h, byts_len]
    refine ⟨hl.symm, ?_⟩
    have h2 := asm_byts (asm r % 2 ^ n) ((n + 7) / 8)
    rw [h] at h2
    have h3 : asm r % 2 ^ n < 2 ^ (8 * ((n + 7) / 8)) := Nat.lt_of_lt_of_le (Nat.mod_lt _ (Nat.two_pow_pos _)) (Nat.pow_le_pow_right (by decide) (by omega))
    rw [Nat.mod_eq_of_lt h3] at h2
    rw [h2]
    exact Nat.mod_lt _ (Nat.two_pow_pos _)
  · rintro ⟨h1, h2⟩
    rw [Nat.mod_eq_of_lt h2, ← h1, byts_asm hr]
/-- what both say of bytes -/
theorem read_both {l : List Int} (hb : okB l) :
    ((rreadR l).2 = true ∧ ∃ x : Nat, readR l = (((rreadR l).1.length : Int), x, 0) ∧ x < 2 ^ 64 ∧ ∀ i, i < (rreadR l).1.length → hasB (rreadR l).1.length x i = (rreadR l).1.getD i false) ∨ ((rreadR l).2 = false ∧ readR l = (0, 0, 3)) := by
  cases l with
  | nil => exact .inr ⟨rfl, rfl⟩
  | cons n r =>
    have hn := hb n (by simp)
    have hr : okB r := fun x hx => hb x (by simp [hx])
    obtain ⟨k, rfl⟩ := Int.eq_ofNat_of_zero_le hn.1
    unfold rreadR readR
    simp only [Int.toNat_natCast]
    by_cases h64 : 64 < (k : Int)
    · right; simp [h64]
    rw [decide_eq_false h64]
    simp only [Bool.false_eq_true, if_false]
    by_cases hs : r.length < (k + 7) / 8
    · right
      rw [decide_eq_true hs, decide_eq_false (show ¬ (r.length : Int) = ((k : Int) + 7) / 8 by omega)]
      simp
    rw [decide_eq_false hs]
    simp only [Bool.false_eq_true, if_false]
    rw [str_beq (putM_ok _ (by omega)) hb]
    by_cases h : putM k (asm r % 2 ^ k) = (k : Int) :: r
    · left
      obtain ⟨h1, h2⟩ := (put_iff hr).1 h
      have hg : rgt k (asm r) = true := by simp [rgt, h2]; omega
      rw [decide_eq_true h, decide_eq_true (show (r.length : Int) = ((k : Int) + 7) / 8 by omega)]
      simp only [if_true, hg, bitsL_len]
      refine ⟨by first | trivial | rfl | simp, asm r, by first | rfl | simp, Nat.lt_of_lt_of_le h2 (Nat.pow_le_pow_right (by decide) (by omega)), fun i hi => ?_⟩
      simp [hasB, hg, hi, bitsL]
    · right
      rw [decide_eq_false h]
      refine ⟨by first | rfl | simp, ?_⟩
      by_cases h1 : (r.length : Int) = ((k : Int) + 7) / 8
      · rw [decide_eq_true h1]
        have hg : rgt k (asm r) = false := by
          have : ¬ asm r < 2 ^ k := fun h2 => h ((put_iff hr).2 ⟨by omega, h2⟩)
          simp [rgt, this]
        simp [hg]
      · rw [decide_eq_false h1]; simp
end Go.Proofs.Ytigbmbmngkmdlaa.Bm
