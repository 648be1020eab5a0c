/-
  crc: what must come of fixed calls.
-/
import Derived.Test.YtagfplcafeblbaaCe
import Derived.Lib.SlBytesConst
namespace Go.Proofs.Ytagfplcafeblbaa.C
open Go.RowKit Go.Proofs.Ytagfplcafeblbaa.L Go.Proofs.YtagfplcafeblbaaW.PrintWords

theorem C_lit (l : List Nat) (W : World) (fr : Nat × Nat) (hl : l.length ≤ 100) : (Kd.int .u8).C (W.alloc (.cells ((natB l).map (Value.int .u8)).toArray 5 fr)) (some ⟨W.heap.size, 0, none⟩) l.length (natB l) := by
  refine Kd.C_of_reads (d := (0 : Int)) ⟨natB_length l, by omega, fun _ => ⟨_, rfl, fun j hj => ?_⟩⟩
  rw [add_at, World.cell?_alloc_mark]
  have hj' : j < (natB l).length := by rw [natB_length]; exact hj
  simp [hj', List.getD_eq_getElem?_getD]
theorem cv_at (w : World) (C : Array Value) (n c g : Nat) (hg : g = w.heap.size) :
    (convert 22 22 (.slice (some ⟨g, 0, none⟩) n c)).run Try.prog (w.alloc (.cells C 5)) = .ok (.slice (some ⟨g, 0, none⟩) n c) (w.alloc (.cells C 5 (C.size, C.size + 1))) := by
  subst hg; exact Lib.run_convert_bytes_const w _ _ C n c Try.underlying22 Try.underlying5
theorem eq_d (d : Nat) (W : World) : (Op.equalIn (d + 1 + 1) 62 (.agg #[.int .u8 2, .int .u8 1, .int .u8 0, .int .u8 0]) (.agg #[.int .u8 2, .int .u8 1, .int .u8 0, .int .u8 0])).run Try.prog W = .ok true W := by
  kernel_rfl
theorem eq_4 (W : World) : (Op.equalIn 10000 62 (.agg #[.int .u8 2, .int .u8 1, .int .u8 0, .int .u8 0]) (.agg #[.int .u8 2, .int .u8 1, .int .u8 0, .int .u8 0])).run Try.prog W = .ok true W := eq_d 9998 W
theorem v_1 : ofN [49, 50, 51, 52, 53, 54, 55, 56, 57] = 3421780262 := by kernel_rfl
theorem v_2 : sumN (ofN [49, 50, 51, 52]) [53, 54, 55, 56, 57] = 3421780262 := by kernel_rfl
theorem v_3 : endsN [0, 0, 0, 0] = true := by kernel_rfl
theorem v_4 : endsN [1, 0, 0, 0, 0] = false := by kernel_rfl
set_option maxHeartbeats 3200000 in
set_option maxRecDepth 100000 in
theorem alive_any (w : World) : Calls Try.prog 21 #[] w fun e w' => e = .returned (.bool true) ∧ Below w.heap.size w w' := by
  obtain ⟨b, hb⟩ : ∃ b, b = w.heap.size := ⟨_, rfl⟩
  have hs0 := SU_new w
  rw [← hb] at hs0
  have hb0 : Below w.heap.size w (w.alloc (.cells zc tS)) := (Below.refl _ _).alloc (Nat.le_refl _) _
  obtain ⟨W0, hW0⟩ : ∃ W0, W0 = w.alloc (.cells zc tS) := ⟨_, rfl⟩
  have HW0 := Lib.hid hW0
  rw [← hW0] at hs0 hb0
  have HS0 := Lib.hid hs0
  have HB0 := Lib.hid hb0
  have Hb := Lib.hid hb
  clear hs0 hb0 hW0 hb
  go_enter Try.func21, Try.ntmps21
  go_wp2_with fail
  rw [cv_at]
  case hg => simp
  go_wp2_with fail
  refine (show Calls Try.prog _ _ ((w.alloc (.cells zc tS)).alloc (.cells ((natB [49, 50, 51, 52]).map (Value.int .u8)).toArray 5 (4, 5))) _ from ?_)
  have hc := C_lit [49, 50, 51, 52] (w.alloc (.cells zc tS)) (4, 5) (by decide)
  have hb1 : Below w.heap.size w ((w.alloc (.cells zc tS)).alloc (.cells ((natB [49, 50, 51, 52]).map (Value.int .u8)).toArray 5 (4, 5))) := ((Below.refl _ _).alloc (Nat.le_refl _) _).alloc (by simp) _
  have hs1 : SU b 0 ((w.alloc (.cells zc tS)).alloc (.cells ((natB [49, 50, 51, 52]).map (Value.int .u8)).toArray 5 (4, 5))) := HS0.out.keep (by
    rw [HW0.out]
    exact Below.heap_alloc _ _ _ (by rw [Hb.out]; simp))
  obtain ⟨W1, hW1⟩ : ∃ W1, W1 = ((w.alloc (.cells zc tS)).alloc (.cells ((natB [49, 50, 51, 52]).map (Value.int .u8)).toArray 5 (4, 5))) := ⟨_, rfl⟩
  rw [← hW1] at hc hb1 hs1 ⊢
  rw [show (w.alloc (.cells zc tS)).heap.size = w.heap.size + 1 from by simp] at hc
  refine (of_any [49, 50, 51, 52] _ 4 W1 hc (by decide)).mono ?_
  rintro e W2 ⟨rfl, hb2⟩
  have HS2 := Lib.hid (hs1.keep (hb2.block b hs1.lt))
  have HB2 := Lib.hid (hb1.trans (hb2.mono hb1.size))
  clear hW1 hc hb1 hs1 hb2 HS0 HB0 HW0
  go_wp2_with fail
  rw [cv_at]
  case hg => simp
  go_wp2_with fail
  refine (show Calls Try.prog _ _ (W2.alloc (.cells ((natB [53, 54, 55, 56, 57]).map (Value.int .u8)).toArray 5 (5, 6))) _ from ?_)
  have hc := C_lit [53, 54, 55, 56, 57] W2 (5, 6) (by decide)
  have hm := more_any b 0 (ofN [49, 50, 51, 52]) [53, 54, 55, 56, 57] _ 5 (W2.alloc (.cells ((natB [53, 54, 55, 56, 57]).map (Value.int .u8)).toArray 5 (5, 6))) (HS2.out.keep (Below.heap_alloc _ _ _ HS2.out.lt)) ⟨by omega, by omega⟩ (by rw [show ofN [49, 50, 51, 52] = 0x9BE3E0A3 from by kernel_rfl]; decide) hc (by decide) (fun _ ad ha => by
    injection ha with ha
    subst ha
    exact Nat.ne_of_gt HS2.out.lt)
  refine (show Calls Try.prog _ _ (W2.alloc (.cells ((natB [53, 54, 55, 56, 57]).map (Value.int .u8)).toArray 5 (5, 6))) _ from (Hb.out ▸ hm).mono ?_)
  rintro e W3 ⟨rfl, hs3, hg3⟩
  have HS3 := Lib.hid (show SU b 1 W3 from by rw [Hb.out]; exact hs3)
  have HB3 := Lib.hid ((HB2.out.alloc HB2.out.size _).grown hg3 (Nat.le_trans HB2.out.size (by simp)) (fun k hk => by injection hk with hk; have := Hb.out; omega))
  clear hm hc hs3 hg3 HS2 HB2
  rw [v_2]
  go_wp2_with fail
  rw [cv_at]
  case hg => simp
  go_wp2_with fail
  refine (show Calls Try.prog _ _ (W3.alloc (.cells ((natB [49, 50, 51, 52, 53, 54, 55, 56, 57]).map (Value.int .u8)).toArray 5 (9, 10))) _ from ?_)
  have hc := C_lit [49, 50, 51, 52, 53, 54, 55, 56, 57] W3 (9, 10) (by decide)
  refine (of_any [49, 50, 51, 52, 53, 54, 55, 56, 57] _ 9 _ hc (by decide)).mono ?_
  rintro e W4 ⟨rfl, hb4⟩
  have HS4 := Lib.hid (HS3.out.keep ((hb4.block b (Nat.lt_trans HS3.out.lt (by simp))).trans (Below.heap_alloc _ _ _ HS3.out.lt)))
  have HB4 := Lib.hid ((HB3.out.alloc HB3.out.size _).trans (hb4.mono (Nat.le_trans HB3.out.size (by simp))))
  clear hc hb4 HS3 HB3
  rw [v_1]
  go_wp2_with fail
  refine (Hb.out ▸ runs_any b 1 W4 HS4.out).mono ?_
  rintro e W5 ⟨rfl, h5⟩
  rw [h5]
  clear h5 W5
  go_wp2_with fail
  refine (show Calls Try.prog _ _ (W4.alloc (.cells ((natB [0, 0, 0, 0]).map (Value.int .u8)).toArray 5)) _ from ?_)
  have hc := C_lit [0, 0, 0, 0] W4 (0, 0) (by decide)
  refine (ends_any [0, 0, 0, 0] _ 4 _ hc (by decide) (by decide) (by decide)).mono ?_
  rintro e W5 ⟨rfl, hb5⟩
  have HB5 := Lib.hid ((HB4.out.alloc HB4.out.size _).trans (hb5.mono (Nat.le_trans HB4.out.size (by simp))))
  clear hc hb5 HB4
  rw [v_3]
  go_wp2_with fail
  refine (show Calls Try.prog _ _ (W5.alloc (.cells ((natB [1, 0, 0, 0, 0]).map (Value.int .u8)).toArray 5)) _ from ?_)
  have hc := C_lit [1, 0, 0, 0, 0] W5 (0, 0) (by decide)
  refine (ends_any [1, 0, 0, 0, 0] _ 5 _ hc (by decide) (by decide) (by decide)).mono ?_
  rintro e W6 ⟨rfl, hb6⟩
  have HB6 := Lib.hid ((HB5.out.alloc HB5.out.size _).trans (hb6.mono (Nat.le_trans HB5.out.size (by simp))))
  clear hc hb6 HB5
  rw [v_4]
  go_wp2_with fail
  refine (bytes_any 258 W6 (by decide)).mono ?_
  rintro e W7 ⟨rfl, hb7⟩
  have HB7 := Lib.hid (HB6.out.trans (hb7.mono HB6.out.size))
  clear hb7 HB6
  have heq := eq_4
  go_wp2_with fail
  go_ret
  exact ⟨rfl, HB7.out⟩
end Go.Proofs.Ytagfplcafeblbaa.C
