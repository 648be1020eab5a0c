/-
  aes: Turn and Words of a cipher that is nil or that no call made.
-/
import Derived.Test.YtblnclooobggnaaAn
namespace Go.Proofs.Ytblnclooobggnaa.A
open Go.RowKit Go.Proofs.Ytblnclooobggnaa.L Go.Proofs.Ytblnclooobggnaa.N Go.Proofs.YtblnclooobggnaaW.PrintWords

set_option maxRecDepth 100000 in
set_option maxHeartbeats 3200000 in
theorem turn_none (p : Option Addr) (x : List Nat) (w : World) (hR : ∀ W, Below w.heap.size w W → Calls Try.prog 37 #[.pointer p] W fun e w' => e = .returned (.bool false) ∧ w' = W) :
    Calls Try.prog 17 #[.pointer p, .agg (arr .u8 x)] w fun e w' => e = .returned (.tuple #[.agg (arr .u8 z16), .int .i64 6]) ∧ Below w.heap.size w w' := by
  have HR := Lib.hid hR
  clear hR
  go_enter Try.func17, Try.ntmps17
  go_upto_region 1 with (fail)
  refine wp_at fun W hW => ?_
  obtain ⟨h2, h4, hb, hsz⟩ := two_ab (k := .u8) (k' := .u8) x z16 hW
  have HT4 := Lib.hid h4
  have HB := Lib.hid hb
  have HR1 := Lib.hid (HR.out W hb)
  clear hW h2 h4 hb hsz HR
  have Hi := Lib.hid (show (Try.prog.info? tB).map (·.size) = some z16.length from info_B)
  go_wp2_with (first
    | (go_at_call 37; refine HR1.out.mono ?_; rintro e w1 ⟨rfl, hw1⟩; (rw [hw1]); clear hw1 w1)
    | (refine store_ab .u8 (w.heap.size + 1) z16 z16 rfl rfl rfl rfl rfl HT4.out Hi.out rfl ?_; intro w9 h9 hg9; (have H9 := Lib.hid h9); (have HG9 := Lib.hid hg9); clear h9 hg9))
  have hl := H9.out.load (P := Try.prog) Try.underlying26 Hi.out
  exact bodyPost_ret (v := .tuple #[.agg (arr .u8 z16), .int .i64 6]) (by simp [results, Try.results17, hl, asAddr]) rfl ⟨rfl, below_grown HB.out HB.out.size HG9.out (Nat.le_succ _)⟩
set_option maxRecDepth 100000 in
set_option maxHeartbeats 3200000 in
theorem words_none (p : Option Addr) (w : World) (hR : ∀ W, Below w.heap.size w W → Calls Try.prog 37 #[.pointer p] W fun e w' => e = .returned (.bool false) ∧ w' = W) :
    Calls Try.prog 19 #[.pointer p] w fun e w' => e = .returned (.agg (arr .u8 z176)) ∧ Below w.heap.size w w' := by
  have HR := Lib.hid hR
  clear hR
  go_enter Try.func19, Try.ntmps19
  go_upto_region 1 with (fail)
  refine wp_at fun W hW => ?_
  have hb : Below w.heap.size w W := by rw [hW]; exact (Below.refl _ _).alloc (Nat.le_refl _) _
  have HZ := Lib.hid (show AB .u8 tW w.heap.size z176 W from by rw [hW]; exact AB.mk w .u8 _ z176)
  have HB := Lib.hid hb
  have HR1 := Lib.hid (HR.out W hb)
  clear hW hb HR
  have Hi := Lib.hid (show (Try.prog.info? tW).map (·.size) = some z176.length from info_W)
  go_wp2_with (first
    | (go_at_call 37; refine HR1.out.mono ?_; rintro e w1 ⟨rfl, hw1⟩; (rw [hw1]); clear hw1 w1)
    | (refine store_ab .u8 w.heap.size z176 z176 rfl rfl rfl rfl rfl HZ.out Hi.out rfl ?_; intro w9 h9 hg9; (have H9 := Lib.hid h9); (have HG9 := Lib.hid hg9); clear h9 hg9))
  have hl := H9.out.load (P := Try.prog) Try.underlying37 Hi.out
  exact bodyPost_ret (v := .agg (arr .u8 z176)) (by simp [results, Try.results19, hl, asAddr]) rfl ⟨rfl, below_grown HB.out HB.out.size HG9.out (Nat.le_refl _)⟩
end Go.Proofs.Ytblnclooobggnaa.A
