/-
  Bytes: pieces of a slice.
-/
import Derived.Test.YtagfplcafeblbaaN
import Derived.Test.YtagfplcafeblbaaSc
namespace Go.Proofs.Ytagfplcafeblbaa.N
open Go.RowKit Go.Proofs.Ytagfplcafeblbaa.L Go.Proofs.YtagfplcafeblbaaW.PrintWords

theorem C_len {w : World} {k : IntKind} {A : Option Addr} {n : Nat} {l : List Nat} (h : (Kd.int k).C w A n (nat l)) : l.length = n := by
  have := h.1
  rwa [nat_length] at this
/-- of the same block -/
def Sub (A A' : Option Addr) : Prop := ∀ ad, A' = some ad → ∃ ad0, A = some ad0 ∧ ad0.block = ad.block
/-- s[lo:], and where it lies -/
theorem cutFS (A : Option Addr) (n c : Nat) (lo : Int) (m : Nat) (h0 : lo = m) (h1 : m ≤ n) (hc : n ≤ c) :
    ∃ A' c', (∀ W : World, (Instr.slice 22 (.slice A n c) (some (.int .i64 lo)) none none).run Try.prog W = .ok (.slice A' (n - m) c') W) ∧ n - m ≤ c' ∧ Sub A A' ∧
      ∀ (W : World) (l : List Nat), (Kd.int .u8).C W A n (nat l) → (Kd.int .u8).C W A' (n - m) (nat (l.drop m)) := by
  subst h0
  obtain ⟨i0, hi0, hz0⟩ := info_of S.info_u8
  refine ⟨_, _, fun W => (cut_from 22 5 .i64 Try.underlying22 hi0 1 hz0 A n c m (by omega) (by omega) W).trans (by rw [Int.toNat_natCast]), by omega, ?_, ?_⟩
  · intro ad had
    split at had
    · exact ⟨ad, had, rfl⟩
    · obtain ⟨x, hx, rfl⟩ := Option.map_eq_some_iff.1 had
      exact ⟨x, hx, by unfold Addr.add; split <;> rfl⟩
  intro W l hC
  have hl := C_len hC
  have h := Kd.C_mid (xs := nat l) (lo := m) (hi := n) (c := c) (by rw [nat_length, hl]; exact hC) (by omega) (by rw [nat_length]; omega) (by rw [nat_length]; omega)
  have hlen : ((nat l).drop m).length = n - m := by rw [List.length_drop, nat_length]; omega
  rw [List.take_of_length_le (by rw [nat_length]; omega), hlen, ← nat_drop] at h
  exact h
/-- s[lo:] -/
theorem cutF (A : Option Addr) (n c : Nat) (lo : Int) (m : Nat) (h0 : lo = m) (h1 : m ≤ n) (hc : n ≤ c) :
    ∃ A' c', (∀ W : World, (Instr.slice 22 (.slice A n c) (some (.int .i64 lo)) none none).run Try.prog W = .ok (.slice A' (n - m) c') W) ∧ n - m ≤ c' ∧
      ∀ (W : World) (l : List Nat), (Kd.int .u8).C W A n (nat l) → (Kd.int .u8).C W A' (n - m) (nat (l.drop m)) := by
  obtain ⟨A', c', h2, h3, _, h4⟩ := cutFS A n c lo m h0 h1 hc
  exact ⟨A', c', h2, h3, h4⟩
/-- s[:hi] -/
theorem cutT (A : Option Addr) (n c : Nat) (hi : Int) (m : Nat) (h0 : hi = m) (h1 : m ≤ n) (hc : n ≤ c) :
    (∀ W : World, (Instr.slice 22 (.slice A n c) none (some (.int .i64 hi)) none).run Try.prog W = .ok (.slice A m c) W) ∧
      ∀ (W : World) (l : List Nat), (Kd.int .u8).C W A n (nat l) → (Kd.int .u8).C W A m (nat (l.take m)) := by
  subst h0
  obtain ⟨i0, hi0, hz0⟩ := info_of S.info_u8
  refine ⟨fun W => (cut_to 22 5 .i64 Try.underlying22 hi0 A n c m (by omega) (by omega) hc W).trans (by rw [Int.toNat_natCast]), ?_⟩
  intro W l hC
  have hl := C_len hC
  have h := Kd.C_take (xs := nat l) (by rw [nat_length, hl]; exact hC) (m := m) (by rw [nat_length]; omega)
  rwa [show ((nat l).take m).length = m from by rw [List.length_take, nat_length]; omega, ← nat_take] at h
/-- s[lo:hi] -/
theorem cutM (A : Option Addr) (n c : Nat) (lo hi : Int) (m m2 : Nat) (h0 : lo = m) (h2 : hi = m2) (h1 : m ≤ m2) (h3 : m2 ≤ n) (hc : n ≤ c) :
    ∃ A' c', (∀ W : World, (Instr.slice 22 (.slice A n c) (some (.int .i64 lo)) (some (.int .i64 hi)) none).run Try.prog W = .ok (.slice A' (m2 - m) c') W) ∧ m2 - m ≤ c' ∧
      ∀ (W : World) (l : List Nat), (Kd.int .u8).C W A n (nat l) → (Kd.int .u8).C W A' (m2 - m) (nat ((l.take m2).drop m)) := by
  obtain ⟨i0, hi0, hz0⟩ := info_of S.info_u8
  obtain ⟨A', c', hr, hc', hC'⟩ := cutm (P := Try.prog) .u8 22 5 Try.underlying22 hi0 hz0 A n c lo hi (m2 - m) (by omega) (by omega) (by omega) hc
  refine ⟨A', c', hr, hc', fun W l hC => ?_⟩
  have hl := C_len hC
  have h := (hC' W (nat l) (by rw [nat_length, hl]) (by rw [nat_length, hl]; exact hC)).1
  subst h0
  subst h2
  rwa [Int.toNat_natCast, Int.toNat_natCast, ← nat_take, ← nat_drop] at h
theorem C_none (w : World) : (Kd.int .u8).C w none 0 (nat []) := Kd.C_of_reads (d := (0 : Int)) ⟨rfl, by simp, fun h => absurd h (by simp)⟩
end Go.Proofs.Ytagfplcafeblbaa.N
