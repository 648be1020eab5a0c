/-
  crc: the document's own answer: Close, Ends.
-/
import Derived.Test.YtagfplcafeblbaaCk
import Derived.Test.YtagfplcafeblbaaCi
namespace Go.Proofs.Ytagfplcafeblbaa.C
open Go.RowKit Go.Proofs.Ytagfplcafeblbaa.L Go.Proofs.YtagfplcafeblbaaW.PrintWords

set_option maxHeartbeats 1600000 in
set_option maxRecDepth 100000 in
theorem rclose_any (l : List Nat) (A : Option Addr) (c : Nat) (w : World) (hC : (Kd.int .u8).C w A l.length (natB l)) (hl : ∀ x ∈ l, x < 256) (hm : l.length ≤ 140737488355320) :
    Calls Try.prog 29 #[.slice A l.length c] w fun e w' => ∃ v, e = .returned v ∧ (Kd.int .u8).R 5 w' w.heap.size (fun _ => True) v (natB (clN l)) ∧ Below w.heap.size w w' := by
  have HC := Lib.hid hC
  have HL := Lib.hid hl
  have HM := Lib.hid hm
  have hof := ofN_lt hl
  have HN := Lib.hid hof
  clear hC hl hm
  go_enter Try.func29, Try.ntmps29
  go_wp2_with (at_builtin; refine appn (w0 := w) .u8 w.heap.size (.tmp 5) (.tmp 6) 22 5 1 rfl rfl Try.underlying22 S.info_u8 (by decide) _ [] (natB l) _ _ _ rfl rfl (Kd.R_nil _ _ _ _ _) HC.out (Below.refl _ _) (Nat.le_refl _) (by have := HM.out; simp; omega) ?_; intro v1 w2 ho2 hb2 _; (have HR2 := Lib.hid (show (Kd.int .u8).R 5 w2 w.heap.size (fun _ => True) v1 (natB l) from by simpa using ho2)); (have HB2 := Lib.hid hb2); clear ho2 hb2)
  refine (rof_any l A c w2 (Kd.C_below HC.out HB2.out) HL.out).mono ?_
  rintro e w3 ⟨rfl, h3⟩
  rw [h3]
  clear h3 w3
  have HE := Lib.hid (show ∀ s, s = ofN l → clN l = l ++ le4 s from fun s h => by rw [h]; rfl)
  obtain ⟨s, hs⟩ : ∃ s, ofN l = s := ⟨_, rfl⟩
  rw [hs] at HN hof ⊢
  have HE2 := Lib.hid (HE.out s hs.symm)
  clear hs HE
  have hs0 : (0 : Int) ≤ (s : Int) := by omega
  have hk : natB (le4 s) = [(s : Int) % 256, (s : Int) / 256 % 256, (s : Int) / 65536 % 256, (s : Int) / 16777216] := by
    simp [natB, le4_get]
    omega
  have HK := Lib.hid hk
  clear hk
  go_wp2_with (at_builtin; refine appn (w0 := w) .u8 w.heap.size (.tmp 10) (.tmp 25) 22 5 1 rfl rfl Try.underlying22 S.info_u8 (by decide) v1 (natB l) (natB (le4 s)) (some ⟨w2.heap.size, 0, none⟩) 4 4 rfl rfl (Kd.R_below HR2.out ((Below.refl _ _).alloc (Nat.le_refl _) _)) ?hC (HB2.out.alloc HB2.out.size _) (Nat.le_trans HB2.out.size (by simp)) (by have := HM.out; rw [natB_length]; omega) ?_; (case hC => (refine Kd.C_of_reads (d := (0 : Int)) ⟨by rw [HK.out]; rfl, by omega, fun _ => ⟨_, rfl, fun j hj => ?_⟩⟩; rw [add_at, World.cell?_alloc_mark, HK.out]; rcases (by omega : j = 0 ∨ j = 1 ∨ j = 2 ∨ j = 3) with h | h | h | h <;> subst h <;> rfl)); intro v3 w4 ho3 hb3 _; (have HR3 := Lib.hid ho3); (have HB3 := Lib.hid hb3); clear ho3 hb3)
  go_ret
  refine ⟨_, rfl, ?_, HB3.out⟩
  have := HR3.out
  rwa [← natB_app, ← HE2.out] at this
theorem ends_eq (l : List Nat) (hl : ∀ x ∈ l, x < 256) (m : Nat) (hm : l.length = m + 4) : ((strOfNums (natB (clN (l.take m)))).toList == (strOfNums (natB l)).toList) = endsN l := by
  rw [str_beq (okB_natB (clN_lt (fun x hx => hl x (List.mem_of_mem_take hx)))) (okB_natB hl)]
  unfold endsN
  rw [decide_eq_true (show 4 ≤ l.length from by omega), Bool.true_and, show l.length - 4 = m from by omega]
  exact decide_eq_decide.2 ⟨natB_inj, fun h => by rw [h]⟩
set_option maxHeartbeats 1600000 in
set_option maxRecDepth 100000 in
theorem rends_any (l : List Nat) (A : Option Addr) (c : Nat) (w : World) (hC : (Kd.int .u8).C w A l.length (natB l)) (hl : ∀ x ∈ l, x < 256) (hm : l.length ≤ 140737488355320) (hc : l.length ≤ c) :
    Calls Try.prog 31 #[.slice A l.length c] w fun e w' => e = .returned (.bool (endsN l)) ∧ Below w.heap.size w w' := by
  have hm0 : (l.length : Int) ≤ 140737488355320 := by omega
  by_cases h4 : 4 ≤ l.length
  · obtain ⟨m, hml⟩ : ∃ m, l.length = m + 4 := ⟨l.length - 4, by omega⟩
    have s1 : IntKind.i64.wrap ((l.length : Int) - 4) = (m : Int) := by rw [show (l.length : Int) - 4 = (m : Int) from by omega]; exact IntWalk.i64_in _ (by omega)
    have z2 : decide ((l.length : Int) < 4) = false := decide_eq_false (by omega)
    obtain ⟨i0, hi0, _⟩ := info_of S.info_u8
    have hcut := cut_to 22 5 .i64 Try.underlying22 hi0 A l.length c m (by omega) (by omega) hc
    rw [Int.toNat_natCast] at hcut
    have htl : (l.take m).length = m := by simp; omega
    have hC1 : ∀ W, Below w.heap.size w W → (Kd.int .u8).C W A m (natB (l.take m)) := fun W hb => by
      have h := Kd.C_take (m := m) (show (Kd.int .u8).C W A (natB l).length (natB l) from (natB_length l).symm ▸ Kd.C_below hC hb) (by rw [natB_length]; omega)
      rwa [natB_take, natB_length, htl] at h
    have HCl := Lib.hid (fun W hb => rclose_any (l.take m) A c W (htl.symm ▸ hC1 W hb) (fun x hx => hl x (List.mem_of_mem_take hx)) (by omega) : ∀ W, Below w.heap.size w W → _)
    rw [htl] at HCl
    have HC := Lib.hid hC
    have HEq := Lib.hid (ends_eq l hl m hml)
    have z1 : (0 : Int) ≤ (m : Int) := by omega
    have hcv : ∀ n : Q.GW w.drew w.heap.size none, (convert 22 9 (.slice A l.length c)).run Try.prog n.w = .ok (.string (strOfNums (natB l))) n.w := fun n => Kd.C_string Try.underlying22 Try.underlying5 Try.underlying9 (Kd.C_below HC.out (stay1 (stay0 w) n.below))
    clear hC1 htl hC hl hm hc h4 hml
    go_enter Try.func31, Try.ntmps31
    go_wp2_with fail
    refine Q.wp_region_segs none [([0, 1, 2, 3, 4, 7, 8], some 5), ([6, 9, 10], none)] (by kernel_rfl) (by kernel_rfl) (by kernel_rfl) (by kernel_rfl) ?_
    dsimp only [Q.wpSegs, Q.picks, Q.pick]
    repeat (go_big_quiet_step (fail))
    refine wpQuiet_nil ?_
    go_wp2_with (go_at_call 29; refine (HCl.out _ (stay0 w)).mono ?_; rintro e w3 ⟨v3, rfl, ho3, hb3⟩; obtain ⟨A3, c3, rfl, _, hC3⟩ := Kd.R_reads ho3; (have HC3 := Lib.hid hC3); (have HB3 := Lib.hid hb3); clear ho3 hC3 hb3)
    refine Q.ev_done HB3.out (Nat.le_refl _) ?_
    have hcv3 : ∀ n : Q.GW w3 w3.heap.size none, (convert 22 9 (.slice A3 (natB (clN (l.take m))).length c3)).run Try.prog n.w = .ok (.string (strOfNums (natB (clN (l.take m))))) n.w := fun n => Kd.C_string Try.underlying22 Try.underlying5 Try.underlying9 (Kd.C_below HC3.out n.below)
    clear hcv
    have heq := HEq.out
    repeat (go_big_quiet_step (fail))
    refine wpQuiet_nil ?_
    refine NoPanic.normal ?_
    go_wp2
    go_ret
    exact ⟨rfl, stay1 (stay0 w) HB3.out⟩
  · have z2 : decide ((l.length : Int) < 4) = true := decide_eq_true (by omega)
    have hE : endsN l = false := by unfold endsN; rw [decide_eq_false h4, Bool.false_and]
    rw [hE]
    clear hE hC hl hm hc h4
    go_enter Try.func31, Try.ntmps31
    go_wp2
    go_ret
    exact ⟨rfl, Below.refl _ _⟩
end Go.Proofs.Ytagfplcafeblbaa.C
