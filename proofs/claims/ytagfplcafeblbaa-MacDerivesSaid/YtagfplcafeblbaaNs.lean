/-
  Strings of bytes, told by lists of numbers.
-/
import Derived.Test.YtagfplcafeblbaaNq
namespace Go.Proofs.Ytagfplcafeblbaa.N
open Go.RowKit Go.Proofs.Ytagfplcafeblbaa.L Go.Proofs.YtagfplcafeblbaaW.PrintWords

theorem u8_injS {x y : Nat} (hx : x < 256) (hy : y < 256) (h : UInt8.ofNat (x : Int).toNat = UInt8.ofNat (y : Int).toNat) : x = y := by
  have := congrArg UInt8.toNat h
  simp only [UInt8.toNat_ofNat', Int.toNat_natCast] at this
  omega
theorem map_injS : ∀ {a b : List Nat}, (∀ x ∈ a, x < 256) → (∀ x ∈ b, x < 256) → (nat a).map (fun n => UInt8.ofNat n.toNat) = (nat b).map (fun n => UInt8.ofNat n.toNat) → a = b
  | [], [], _, _, _ => rfl
  | [], y :: b, _, _, h => by simp [nat] at h
  | x :: a, [], _, _, h => by simp [nat] at h
  | x :: a, y :: b, ha, hb, h => by
    simp only [nat, List.map_cons, List.cons.injEq] at h
    rw [u8_injS (ha x (by simp)) (hb y (by simp)) h.1, map_injS (fun z hz => ha z (by simp [hz])) (fun z hz => hb z (by simp [hz])) h.2]
/-- what two strings of unlike bytes are, in the forms that a walk asks -/
theorem str_neS {a b : List Nat} (ha : ∀ x ∈ a, x < 256) (hb : ∀ x ∈ b, x < 256) (h : a ≠ b) : (¬ (strOfNums (nat a)).toList = (strOfNums (nat b)).toList) ∧ ((strOfNums (nat a)).toList == (strOfNums (nat b)).toList) = false := by
  have h1 : ¬ (strOfNums (nat a)).toList = (strOfNums (nat b)).toList := fun e => by
    rw [ByteArray.toList_eq, ByteArray.toList_eq, strOfNums_data, strOfNums_data] at e
    exact h (map_injS ha hb e)
  exact ⟨h1, beq_eq_false_iff_ne.2 h1⟩
theorem strS {A : Option Addr} {n c : Nat} {l : List Nat} {w : World} (hn : l.length = n) (h : (Kd.int .u8).C w A n (nat l)) : (convert 22 9 (.slice A n c)).run Try.prog w = .ok (.string (strOfNums (nat l))) w := by
  have h2 : (Kd.int .u8).C w A (nat l).length (nat l) := by rw [nat_length, hn]; exact h
  have := Kd.C_string (P := Try.prog) (src := 22) (dst := 9) (e := 5) (c := c) Try.underlying22 Try.underlying5 Try.underlying9 h2
  rwa [nat_length, hn] at this
end Go.Proofs.Ytagfplcafeblbaa.N
