/-
  slices.Clone of bytes.
-/
import Derived.Test.YtagfplcafeblbaaL
namespace Go.Proofs.Ytagfplcafeblbaa.S
open Go.RowKit Go.Proofs.Ytagfplcafeblbaa.L Go.Proofs.YtagfplcafeblbaaW.PrintWords
theorem info_u8 : (Try.prog.info? 5).map (fun i => (i.zero, i.size, i.bytes)) = some (some (.int .u8 0), 1, 1) := by kernel_rfl

set_option maxHeartbeats 800000 in
set_option maxRecDepth 100000 in
theorem clone_any (l : List Int) (A : Option Addr) (c : Nat) (w : World) (hC : (Kd.int .u8).C w A l.length l) (hs : l.length ≤ 140737488355328) :
    Calls Try.prog 48 #[.slice A l.length c] w fun e w' => ∃ v0 : Value, e = .returned v0 ∧ (Kd.int .u8).R 5 w' w.heap.size (fun _ => True) v0 l ∧ Below w.heap.size w w' := by
  have hn := fun (w : World) => Lib.run_eql_slice_nil (P := Try.prog) w 22 5 A l.length c 0 0 Try.underlying22
  have HS := Lib.hid hs
  rcases A with _ | A
  · have h0 : l = [] := by
      rcases (C_open hC).2 with h | ⟨b, off, h, _⟩
      · exact h
      · cases h
    subst h0
    clear HS hs hC hn
    have hn := fun (w : World) => Lib.run_eql_slice_nil (P := Try.prog) w 22 5 none 0 c 0 0 Try.underlying22
    show Calls Try.prog _ #[.slice none 0 c] w _
    go_enter Try.func48, Try.ntmps48
    go_wp2
    go_ret
    exact ⟨_, rfl, Kd.R_nil _ _ _ _ _, Below.refl _ _⟩
  · have HC := Lib.hid hC
    clear hC hs
    go_enter Try.func48, Try.ntmps48
    go_wp2_with (at_builtin; refine appn (w0 := w) .u8 w.heap.size (.tmp 5) (.tmp 6) 22 5 1 rfl rfl Try.underlying22 info_u8 (by decide) _ [] l _ _ _ rfl rfl (R_empty (Nat.le_refl _) _ rfl) (Kd.C_alloc HC.out _) ((Below.refl _ _).alloc (Nat.le_refl _) _) (by simp) (by have := HS.out; simpa using this) ?_; intro v1 w2 ho2 hb2 _; (have HO2 := Lib.hid ho2); (have HB2 := Lib.hid hb2); clear ho2 hb2)
    go_ret
    exact ⟨_, rfl, HO2.out, HB2.out⟩
theorem clone_n (l : List Int) (n : Nat) (hn : l.length = n) (A : Option Addr) (c : Nat) (w : World) (hC : (Kd.int .u8).C w A n l) (hs : n ≤ 140737488355328) :
    Calls Try.prog 48 #[.slice A n c] w fun e w' => ∃ v0 : Value, e = .returned v0 ∧ (Kd.int .u8).R 5 w' w.heap.size (fun _ => True) v0 l ∧ Below w.heap.size w w' := by
  subst hn
  exact clone_any l A c w hC hs
end Go.Proofs.Ytagfplcafeblbaa.S
