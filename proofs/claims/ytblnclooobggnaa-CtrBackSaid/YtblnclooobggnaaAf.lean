/-
  aes: Once, ready, Turns, the counter.
-/
import Derived.Test.YtblnclooobggnaaAe
namespace Go.Proofs.Ytblnclooobggnaa.A
open Go.RowKit Go.Proofs.Ytblnclooobggnaa.L Go.Proofs.Ytblnclooobggnaa.N Go.Proofs.YtblnclooobggnaaW.PrintWords

abbrev fillV (b : Nat) : Value := .func (.func 59) #[.pointer (some ⟨b, 0, none⟩)] #[]
set_option maxRecDepth 100000 in
set_option maxHeartbeats 1600000 in
theorem slow_any (b : Nat) (tn : Int) (key box tw ws : List Nat) (w : World) (h : CB b 0 0 true (MM key box tw ws) tn w) (hk : key.length = 16) (hb : box.length = 256) (ht : tw.length = 256) (hw : ws.length = 176) (hk8 : ∀ x ∈ key, x < 256) :
    Calls Try.prog 75 #[.pointer (some ⟨b, 0, none⟩), fillV b] w fun e w' => e = .returned (.tuple #[]) ∧ CB b 1 0 true (MF key) tn w' ∧ w.grownBy w' (some b) := by
  have h1 := h.s1 1
  have hl := run_call_load (P := Try.prog) Try.func82 (by kernel_rfl) (by kernel_rfl) (by kernel_rfl) .u32 (by kernel_rfl) h1.c0
  have hnot : ∀ (x : Bool) (w : World), (Op.unary .not (.bool x)).run Try.prog w = .ok (.bool (!x)) w := fun _ _ => rfl
  have HLk := Lib.hid (lock_free ⟨b, 1, none⟩ w h.c1 (h.fz 1))
  have HF := Lib.hid (fill_any b 0 1 tn true key box tw ws _ h1 hk hb ht hw hk8)
  have HG := Lib.hid (gset w b 1 (.int .i32 1))
  clear h h1 hk hb ht hw hk8
  go_enter_defers Try.func75, Try.ntmps75
  go_wp2_with (first
    | (go_at_call 83; refine HLk.out.mono ?_; rintro e w' ⟨rfl, rfl⟩)
    | (go_at_call 74; go_in)
    | (go_at_call 59; refine HF.out.mono ?_; rintro e w1 ⟨rfl, hs1, hg1⟩; (have HS1 := Lib.hid hs1); (have HG1 := Lib.hid hg1); clear hs1 hg1))
  refine leaves_cons (f := 85) (args := #[.pointer (some ⟨b, 0, none⟩), .bool true]) (by simp) (by simp [go_sem]) ?_
  refine (store_deferred ⟨b, 0, none⟩ (.int .u32 0) .returning _ HS1.out.c0 (HS1.out.fz 0)).mono ?_
  rintro e u' w'' ⟨rfl, rfl, rfl⟩
  have HS2 : CB b 1 1 true (MF key) tn (w1.drew.setCell ⟨b, 0, none⟩ (.int .u32 1)) := (HS1.out.keep (w1 := w1.drew) rfl).s0 1
  refine leaves_cons (f := 84) (args := #[.pointer (some ⟨b, 1, none⟩)]) (by simp [settle]) (by simp [go_sem]) ?_
  refine (unlock_deferred ⟨b, 1, none⟩ _ _ HS2.c1 (HS2.fz 1)).mono ?_
  rintro e u' w'' ⟨rfl, rfl, rfl⟩
  have HS3 := HS2.s1 0
  have HG3 := ((HG.out.trans HG1.out).trans (gdrew w1 _)).trans ((gset w1.drew b 0 (.int .u32 1)).trans (gset _ b 1 (.int .i32 0)))
  simp [Leaves, settle, results, Try.results75]
  exact ⟨HS3, HG3⟩
set_option maxRecDepth 100000 in
set_option maxHeartbeats 1600000 in
theorem do_first (b : Nat) (tn : Int) (key box tw ws : List Nat) (w : World) (h : CB b 0 0 true (MM key box tw ws) tn w) (hk : key.length = 16) (hb : box.length = 256) (ht : tw.length = 256) (hw : ws.length = 176) (hk8 : ∀ x ∈ key, x < 256) :
    Calls Try.prog 58 #[.pointer (some ⟨b, 0, none⟩), fillV b] w fun e w' => e = .returned (.tuple #[]) ∧ CB b 1 0 true (MF key) tn w' ∧ w.grownBy w' (some b) := by
  have hl := run_call_load (P := Try.prog) Try.func82 (by kernel_rfl) (by kernel_rfl) (by kernel_rfl) .u32 (by kernel_rfl) h.c0
  have hnot : ∀ (x : Bool) (w : World), (Op.unary .not (.bool x)).run Try.prog w = .ok (.bool (!x)) w := fun _ _ => rfl
  have HS := Lib.hid (slow_any b tn key box tw ws w h hk hb ht hw hk8)
  clear h hk hb ht hw hk8
  go_enter Try.func58, Try.ntmps58
  go_wp2_with (first | (go_at_call 75; refine HS.out.mono ?_; rintro e w' ⟨rfl, hs, hg⟩; (have HS1 := Lib.hid hs); (have HG1 := Lib.hid hg); clear hs hg) | (go_at_call 74; go_in))
  go_end0
  exact ⟨rfl, HS1.out, HG1.out⟩
set_option maxRecDepth 100000 in
set_option maxHeartbeats 1600000 in
theorem do_done (b : Nat) (st tn : Int) (made : Bool) (M : List Nat) (fv : Value) (w : World) (h : CB b 1 st made M tn w) :
    Calls Try.prog 58 #[.pointer (some ⟨b, 0, none⟩), fv] w fun e w' => e = .returned (.tuple #[]) ∧ w' = w := by
  have hl := run_call_load (P := Try.prog) Try.func82 (by kernel_rfl) (by kernel_rfl) (by kernel_rfl) .u32 (by kernel_rfl) h.c0
  have hnot : ∀ (x : Bool) (w : World), (Op.unary .not (.bool x)).run Try.prog w = .ok (.bool (!x)) w := fun _ _ => rfl
  clear h
  go_enter Try.func58, Try.ntmps58
  go_wp2_with (first | (go_at_call 74; go_in))
  go_end0
  exact ⟨rfl, rfl⟩

def z176 : List Nat := List.replicate 176 0
/-- a cipher that New made -/
def CU (b : Nat) (key : List Nat) (tn : Int) (w : World) : Prop := CB b 1 0 true (MF key) tn w ∨ CB b 0 0 true (MM key z256 z256 z176) tn w
section
variable {b : Nat} {key : List Nat} {tn : Int} {w w1 : World}
theorem CU.keep (h : CU b key tn w) (hm : w1.heap[b]? = w.heap[b]?) : CU b key tn w1 := h.elim (fun h => .inl (h.keep hm)) (fun h => .inr (h.keep hm))
theorem CU.lt (h : CU b key tn w) : b < w.heap.size := h.elim (fun h => h.lt) (fun h => h.lt)
theorem CU.below (h : CU b key tn w) (hb : Below w.heap.size w w1) : CU b key tn w1 := h.keep (hb.block b h.lt)
theorem CU.made (h : CU b key tn w) : w.cell? ⟨b, 3, none⟩ = some (.bool true) := h.elim (fun h => h.c3) (fun h => h.c3)
theorem CU.turns (h : CU b key tn w) : w.cell? ⟨b, 708, none⟩ = some (.int .i64 tn) := h.elim (fun h => h.ct) (fun h => h.ct)
theorem CU.blk (h : CU b key tn w) : ∃ cs : List Value, w.heap[b]? = some (.cells cs.toArray tC (0, 0)) := h.elim (fun h => ⟨_, h.blk⟩) (fun h => ⟨_, h.blk⟩)
end
theorem once_any (b : Nat) (tn : Int) (key : List Nat) (w : World) (h : CU b key tn w) (hk : key.length = 16) (hk8 : ∀ x ∈ key, x < 256) :
    Calls Try.prog 58 #[.pointer (some ⟨b, 0, none⟩), fillV b] w fun e w' => e = .returned (.tuple #[]) ∧ CB b 1 0 true (MF key) tn w' ∧ w.grownBy w' (some b) := by
  rcases h with h | h
  · exact (do_done b 0 tn true _ _ w h).mono fun e w' ⟨h1, h2⟩ => ⟨h1, h2 ▸ h, h2 ▸ World.grownBy.refl _ _⟩
  · exact do_first b tn key _ _ _ w h hk (List.length_replicate) (List.length_replicate) (List.length_replicate) hk8
set_option maxRecDepth 100000 in
set_option maxHeartbeats 1600000 in
theorem ready_any (b : Nat) (tn : Int) (key : List Nat) (w : World) (h : CU b key tn w) (hk : key.length = 16) (hk8 : ∀ x ∈ key, x < 256) :
    Calls Try.prog 37 #[.pointer (some ⟨b, 0, none⟩)] w fun e w' => e = .returned (.bool true) ∧ CB b 1 0 true (MF key) tn w' ∧ w.grownBy w' (some b) := by
  have hmf : ∀ (fn : Fn) (first cap : Array Value) (w : World), (Instr.makeFunc fn first cap).run Try.prog w = .ok (.func fn first cap) w := fun _ _ _ _ => rfl
  have HO := Lib.hid (once_any b tn key w h hk hk8)
  have hc := h.made
  clear h hk hk8
  go_enter Try.func37, Try.ntmps37
  go_wp2_with fail
  refine HO.out.mono ?_
  rintro e w1 ⟨rfl, hs1, hg1⟩
  have HS1 := Lib.hid hs1
  have HG1 := Lib.hid hg1
  clear hs1 hg1 HO hc
  go_wp2_with fail
  go_ret
  exact ⟨rfl, HS1.out, HG1.out⟩
set_option maxRecDepth 100000 in
theorem ready_nil (w : World) : Calls Try.prog 37 #[.pointer none] w fun e w' => e = .returned (.bool false) ∧ w' = w := by
  go_enter Try.func37, Try.ntmps37
  go_wp2_with fail
  go_ret
  exact ⟨rfl, rfl⟩
set_option maxRecDepth 100000 in
theorem ready_zero (b : Nat) (w : World) (hc : w.cell? ⟨b, 3, none⟩ = some (.bool false)) : Calls Try.prog 37 #[.pointer (some ⟨b, 0, none⟩)] w fun e w' => e = .returned (.bool false) ∧ w' = w := by
  go_enter Try.func37, Try.ntmps37
  go_wp2_with fail
  go_ret
  exact ⟨rfl, rfl⟩
set_option maxRecDepth 100000 in
set_option maxHeartbeats 800000 in
theorem add_any (b : Nat) (dn st tn : Int) (made : Bool) (M : List Nat) (w : World) (h : CB b dn st made M tn w) (hr : 0 ≤ tn ∧ tn < 4611686018427387904) :
    Calls Try.prog 38 #[.pointer (some ⟨b, 708, none⟩), .int .i64 1] w fun e w' => e = .returned (.int .i64 (tn + 1)) ∧ w' = w.setCell ⟨b, 708, none⟩ (.int .i64 (tn + 1)) := by
  have hadd := run_call_add (P := Try.prog) Try.func60 (by kernel_rfl) (by kernel_rfl) (by kernel_rfl) .i64 (by kernel_rfl) (y := 1) (s := tn + 1) h.ct (h.fz 708) (by
    have : IntKind.i64.wrap (tn + 1) = tn + 1 := IntWalk.i64_in _ (by omega)
    simp [go_sem, this])
  clear h
  go_enter Try.func38, Try.ntmps38
  go_wp2
  go_ret
  exact ⟨rfl, rfl⟩
set_option maxRecDepth 100000 in
set_option maxHeartbeats 800000 in
theorem turns_at (b : Nat) (tn : Int) (w : World) (hc : w.cell? ⟨b, 708, none⟩ = some (.int .i64 tn)) : Calls Try.prog 22 #[.pointer (some ⟨b, 0, none⟩)] w fun e w' => e = .returned (.int .i64 tn) ∧ w' = w := by
  have hl := run_call_load (P := Try.prog) Try.func61 (by kernel_rfl) (by kernel_rfl) (by kernel_rfl) .i64 (by kernel_rfl) hc
  go_enter Try.func22, Try.ntmps22
  go_wp2_with (first | (go_at_call 40; go_in))
  go_ret
  exact ⟨rfl, rfl⟩
theorem turns_nil (w : World) : Calls Try.prog 22 #[.pointer none] w fun e w' => e = .returned (.int .i64 0) ∧ w' = w := by
  go_enter Try.func22, Try.ntmps22
  go_wp2
  go_ret
  exact ⟨rfl, rfl⟩
end Go.Proofs.Ytblnclooobggnaa.A
