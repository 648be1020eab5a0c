/-
  frag: Write; the statements' own As, the document's Same.
-/
import Derived.Test.YthgdbdhonhkkpaaGg
namespace Go.Proofs.Ythgdbdhonhkkpaa.Fg
open Go.RowKit Go.Proofs.Ythgdbdhonhkkpaa.L Go.Proofs.Ythgdbdhonhkkpaa.V Go.Proofs.Ythgdbdhonhkkpaa.N Go.Proofs.YthgdbdhonhkkpaaW.PrintWords

abbrev tP : TypeId := 38
abbrev tR : TypeId := 36
theorem right_id {id ix ct : Int} {n : Nat} (h : rightZ id ix ct n = true) : 1 ≤ id ∧ id < 4611686018427387904 ∧ 0 ≤ ix ∧ ix < 64 ∧ 1 ≤ ct ∧ ct ≤ 64 ∧ n ≤ 480 := by
  have := of_decide_eq_true h
  omega
def wrE (id ix ct : Int) (d : List Int) : Int := if rightZ id ix ct d.length then 0 else 3
def wrL (id ix ct : Int) (d : List Int) : List Int := if rightZ id ix ct d.length then putL id ++ [ix, ct] ++ d else []
set_option maxRecDepth 100000 in
set_option maxHeartbeats 1600000 in
theorem write_any (id ix ct : Int) (d : List Int) (A : Option Addr) (c : Nat) (w : World) (hC : (Kd.int .u8).C w A d.length d) :
    Calls Try.prog 24 #[.agg #[.int .u64 id, .int .i64 ix, .int .i64 ct, .slice A d.length c]] w fun e w' => ∃ v, e = .returned (.tuple #[v, .int .i64 (wrE id ix ct d)]) ∧ (Kd.int .u8).R 5 w' w.heap.size (fun _ => True) v (wrL id ix ct d) ∧ Below w.heap.size w w' := by
  have hX := heap_alloc_new w (.cells #[.int .u64 id, .int .i64 ix, .int .i64 ct, .slice A d.length c] tP)
  have hW : Below w.heap.size w (w.alloc (.cells #[.int .u64 id, .int .i64 ix, .int .i64 ct, .slice A d.length c] tP)) := (Below.refl _ _).alloc (Nat.le_refl _) _
  have hr := right_any id ix ct A d.length c (w.alloc (.cells #[.int .u64 id, .int .i64 ix, .int .i64 ct, .slice A d.length c] tP))
  have HC := Lib.hid (Kd.C_below hC hW)
  have HW := Lib.hid hW
  have HX := Lib.hid hX
  have HLt := Lib.hid (show w.heap.size < (w.alloc (.cells #[.int .u64 id, .int .i64 ix, .int .i64 ct, .slice A d.length c] tP)).heap.size from by simp)
  by_cases hg : rightZ id ix ct d.length = true
  · rw [hg] at hr
    have HE := Lib.hid (show wrE id ix ct d = 0 from if_pos hg)
    have HL := Lib.hid (show wrL id ix ct d = putL id ++ [ix, ct] ++ d from if_pos hg)
    obtain ⟨g1, g2, g3, g4, g5, g6, g7⟩ := right_id hg
    have HR := Lib.hid hr
    have HP := Lib.hid (fun w1 => put_ok id w1 (by omega) g2)
    have HPl := Lib.hid (putL_len id)
    have HDl := Lib.hid g7
    clear hr hC hW hX hg
    go_enter Try.func24, Try.ntmps24
    go_wp2_with (go_at_call 27; refine HR.out.mono ?_; rintro e W1 ⟨rfl, hb1⟩; (have HX1 := Lib.hid (blk_below HX.out hb1)); (have HB1 := Lib.hid hb1); clear hb1 HR; (have k0 := (blk_cell HX1.out 0).trans rfl))
    refine (HP.out _).mono ?_
    rintro e W2 ⟨v, rfl, hv, hb2⟩
    have HB2 := Lib.hid (HB1.out.trans (hb2.mono HB1.out.size))
    have HX2 := Lib.hid (blk_below HX1.out hb2)
    have HV2 := Lib.hid (Kd.R_lower hv HB1.out.size)
    clear hv hb2 k0 HX1
    have k1 := (blk_cell HX2.out 1).trans rfl
    have k2 := (blk_cell HX2.out 2).trans rfl
    have k3 := (blk_cell HX2.out 3).trans rfl
    have hC2 := C_of_blk (w := W2.alloc (.cells #[.int .u8 ix, .int .u8 ct] 5)) (b := W2.heap.size) (k := .u8) (e := 5) (l := [ix, ct]) (heap_alloc_new _ _) (by show 2 ≤ maxLen; decide)
    have HC2 := Lib.hid hC2
    have HB3 := Lib.hid (HB2.out.alloc HB2.out.size (.cells #[.int .u8 ix, .int .u8 ct] 5))
    obtain ⟨W0, hW0⟩ : ∃ W0, (w.alloc (.cells #[.int .u64 id, .int .i64 ix, .int .i64 ct, .slice A d.length c] tP)) = W0 := ⟨_, rfl⟩
    rw [hW0] at HB2 HV2 HW HLt HX HC HB3
    clear hC2 hW0 HP HB1
    go_wp2_with (first
      | (at_builtin; refine appn (w0 := W0) .u8 W0.heap.size (.tmp 18) (.tmp 25) 23 5 1 rfl rfl Try.underlying23 S.info_u8 (by decide) v (putL id) [ix, ct] (some ⟨W2.heap.size, 0, none⟩) 2 2 rfl rfl (Kd.R_alloc HV2.out _) HC2.out HB3.out HB3.out.size (by have := HPl.out; omega) ?_; intro v4 w4 hr4 hb4 _; (have HR4 := Lib.hid hr4); (have HB4 := Lib.hid hb4); (have HX4 := Lib.hid ((hb4.block _ HLt.out).trans HX.out)); clear hr4 hb4 k1 k2 k3; (have k3 := (blk_cell HX4.out 3).trans rfl))
      | (at_builtin; refine appn (w0 := W0) .u8 W0.heap.size (.tmp 27) (.tmp 29) 23 5 1 rfl rfl Try.underlying23 S.info_u8 (by decide) v4 (putL id ++ [ix, ct]) d A d.length c rfl rfl HR4.out (Kd.C_below HC.out HB4.out) HB4.out HB4.out.size (by have := HPl.out; have := HDl.out; rw [List.length_append]; show ((putL id).length + 2 + d.length) * 1 ≤ _; omega) ?_; intro v5 w5 hr5 hb5 _; (have HR5 := Lib.hid hr5); (have HB5 := Lib.hid hb5); clear hr5 hb5))
    go_ret2
    exact ⟨_, by rw [HE.out]; rfl, by rw [HL.out]; exact Kd.R_lower HR5.out HW.out.size, HW.out.trans (HB5.out.mono HW.out.size)⟩
  · have hg' : rightZ id ix ct d.length = false := by simpa using hg
    rw [hg'] at hr
    have HE := Lib.hid (show wrE id ix ct d = 3 from if_neg hg)
    have HL := Lib.hid (show wrL id ix ct d = [] from if_neg hg)
    have HR := Lib.hid hr
    clear hr hC hW hX hg hg'
    go_enter Try.func24, Try.ntmps24
    go_wp2_with (go_at_call 27; refine HR.out.mono ?_; rintro e W1 ⟨rfl, hb1⟩; (have HB1 := Lib.hid hb1); clear hb1 HR)
    go_ret2
    exact ⟨_, by rw [HE.out]; rfl, by rw [HL.out]; exact Kd.R_nil _ _ _ _ _, HW.out.trans (HB1.out.mono HW.out.size)⟩
theorem load4R {w : World} {b : Nat} {a0 a1 a2 a3 : Value} (h : w.heap[b]? = some (.cells #[a0, a1, a2, a3] tR (0, 0))) : (loadVar tR ⟨b, 0, none⟩).run Try.prog w = .ok (.agg #[a0, a1, a2, a3]) w :=
  run_loadVar_row _ _ _ _ _ _ _ h Try.underlying36 rfl (by kernel_rfl)
set_option maxRecDepth 100000 in
set_option maxHeartbeats 800000 in
theorem as_any (id ix ct : Int) (A : Option Addr) (n c : Nat) (w : World) :
    Calls Try.prog 20 #[.agg #[.int .u64 id, .int .i64 ix, .int .i64 ct, .slice A n c]] w fun e w' => e = .returned (.agg #[.int .u64 id, .int .i64 ix, .int .i64 ct, .slice A n c]) ∧ Below w.heap.size w w' := by
  go_enter Try.func20, Try.ntmps20
  go_wp2_with fail
  have hl := load4R (w := (w.alloc (.cells #[.int .u64 id, .int .i64 ix, .int .i64 ct, .slice A n c] tP)).alloc (.cells #[.int .u64 id, .int .i64 ix, .int .i64 ct, .slice A n c] tR)) (b := w.heap.size + 1) (by
    have h := heap_alloc_new (w.alloc (.cells #[.int .u64 id, .int .i64 ix, .int .i64 ct, .slice A n c] tP)) (.cells #[.int .u64 id, .int .i64 ix, .int .i64 ct, .slice A n c] tR)
    simpa using h)
  have hb1 : Below w.heap.size w (w.alloc (.cells #[.int .u64 id, .int .i64 ix, .int .i64 ct, .slice A n c] tP)) := (Below.refl _ _).alloc (Nat.le_refl _) _
  exact bodyPost_ret (v := .agg #[.int .u64 id, .int .i64 ix, .int .i64 ct, .slice A n c]) (by simp [results, Try.results20, hl, asAddr]) rfl ⟨rfl, hb1.alloc hb1.size _⟩
set_option maxRecDepth 100000 in
set_option maxHeartbeats 800000 in
theorem same_yes (id ix ct : Int) (d : List Int) (A A' : Option Addr) (c c' : Nat) (w : World) (hC : (Kd.int .u8).C w A d.length d) (hC' : (Kd.int .u8).C w A' d.length d) :
    Calls Try.prog 19 #[.agg #[.int .u64 id, .int .i64 ix, .int .i64 ct, .slice A d.length c], .agg #[.int .u64 id, .int .i64 ix, .int .i64 ct, .slice A' d.length c']] w fun e w' => e = .returned (.bool true) ∧ Below w.heap.size w w' := by
  have hb1 : Below w.heap.size w (w.alloc (.cells #[.int .u64 id, .int .i64 ix, .int .i64 ct, .slice A d.length c] tR)) := (Below.refl _ _).alloc (Nat.le_refl _) _
  have hb2 : Below w.heap.size w ((w.alloc (.cells #[.int .u64 id, .int .i64 ix, .int .i64 ct, .slice A d.length c] tR)).alloc (.cells #[.int .u64 id, .int .i64 ix, .int .i64 ct, .slice A' d.length c'] tR)) := hb1.alloc hb1.size _
  have q5 := Kd.C_string (P := Try.prog) Try.underlying23 Try.underlying5 Try.underlying9 (c := c) (Kd.C_below hC hb2)
  have q6 := Kd.C_string (P := Try.prog) Try.underlying23 Try.underlying5 Try.underlying9 (c := c') (Kd.C_below hC' hb2)
  have HB := Lib.hid hb2
  clear hC hC' hb1 hb2
  go_enter Try.func19, Try.ntmps19
  go_wp2_with fail
  go_ret
  exact ⟨rfl, HB.out⟩
end Go.Proofs.Ythgdbdhonhkkpaa.Fg
