/-
  frag: Join, the whole.
-/
import Derived.Test.YthgdbdhonhkkpaaGd
namespace Go.Proofs.Ythgdbdhonhkkpaa.Fg
open Go.RowKit Go.Proofs.Ythgdbdhonhkkpaa.L Go.Proofs.Ythgdbdhonhkkpaa.V Go.Proofs.Ythgdbdhonhkkpaa.N Go.Proofs.YthgdbdhonhkkpaaW.PrintWords

def joinE (L : List Pt) : Int := if L.length = 0 then 4 else if anyBad L L.length then 3 else 0
def datas (L : List Pt) : List Int := (L.map (fun p => p.2.2.2)).flatten
def joinD (L : List Pt) : List Int := if joinE L = 0 then datas L else []
theorem good_at {L : List Pt} (h : anyBad L L.length = false) {i : Nat} (hi : i < L.length) : rightZ (L.getD i zP).1 (L.getD i zP).2.1 (L.getD i zP).2.2.1 (L.getD i zP).2.2.2.length = true ∧ (L.getD i zP).1 = (L.getD 0 zP).1 ∧ (L.getD i zP).2.2.1 = (L.length : Int) ∧ (L.getD i zP).2.1 = (i : Int) := by
  have h1 := anyBad_false h hi
  unfold badAt badP at h1
  simpa using h1
theorem good_len {L : List Pt} (h : anyBad L L.length = false) (h0 : 0 < L.length) : L.length ≤ 64 := by
  obtain ⟨h1, _, h2, _⟩ := good_at h h0
  have := of_decide_eq_true h1
  omega
theorem good_data {L : List Pt} (h : anyBad L L.length = false) {i : Nat} (hi : i < L.length) : (L.getD i zP).2.2.2.length ≤ 480 := by
  have := of_decide_eq_true (good_at h hi).1
  omega
theorem datas_take {L : List Pt} {i : Nat} (h : i < L.length) : datas (L.take (i + 1)) = datas (L.take i) ++ (L.getD i zP).2.2.2 := by
  unfold datas
  rw [List.take_add_one, List.map_append, List.flatten_append, List.getD_eq_getElem?_getD, List.getElem?_eq_getElem h]
  simp
theorem datas_len {L : List Pt} (h : anyBad L L.length = false) : ∀ i, i ≤ L.length → (datas (L.take i)).length ≤ i * 480
  | 0, _ => by simp [datas]
  | i + 1, hi => by
    rw [datas_take (by omega), List.length_append]
    have := datas_len h i (by omega)
    have := good_data h (show i < L.length by omega)
    omega
set_option maxRecDepth 100000 in
set_option maxHeartbeats 1600000 in
theorem join_any (L : List Pt) (A : Option Addr) (c : Nat) (w : World) (hC : kP.C w A L.length L) (_ : L.length ≤ c) :
    Calls Try.prog 21 #[.slice A L.length c] w fun e w' => ∃ v, e = .returned (.tuple #[v, .int .i64 (joinE L)]) ∧ (Kd.int .u8).R 5 w' w.heap.size (fun _ => True) v (joinD L) ∧ Below w.heap.size w w' := by
  have hmx := (P_open hC).1
  by_cases h0 : L.length = 0
  · have HE := Lib.hid (show joinE L = 4 from if_pos h0)
    have HD := Lib.hid (show joinD L = [] from by unfold joinD; rw [HE.out]; rfl)
    rw [h0]
    clear hC hmx h0
    go_enter Try.func21, Try.ntmps21
    go_wp2_with fail
    go_ret2
    exact ⟨_, by rw [HE.out]; rfl, by rw [HD.out]; exact Kd.R_nil _ _ _ _ _, (Below.refl _ _).alloc (Nat.le_refl _) _⟩
  rcases (P_open hC).2 with he | ⟨b, off, rfl, hbl, hcells⟩
  · rw [he] at h0; simp at h0
  have t0 : ((L.length : Int) == 0) = false := by rw [beq_eq_false_iff_ne]; omega
  have t0n : (L.length == 0) = false := by rw [beq_eq_false_iff_ne]; omega
  have HC := Lib.hid hC
  have HCs := Lib.hid hcells
  have HN := Lib.hid (show 0 < L.length ∧ b < w.heap.size ∧ L.length ≤ 9223372036854775807 from ⟨by omega, hbl, hmx⟩)
  have hmf : ∀ (fn : Fn) (first cap : Array Value) (w : World), (Instr.makeFunc fn first cap).run Try.prog w = .ok (.func fn first cap) w := fun _ _ _ _ => by rfl
  clear hC h0 hcells hbl hmx
  go_enter Try.func21, Try.ntmps21
  go_wp2_with fail
  refine calls_at fun W hW => ?_
  have hb1 : Below w.heap.size w (w.alloc (.cells #[.slice (some ⟨b, off, none⟩) L.length c] 24)) := (Below.refl _ _).alloc (Nat.le_refl _) _
  have hb2 : Below w.heap.size w ((w.alloc (.cells #[.slice (some ⟨b, off, none⟩) L.length c] 24)).alloc (.cells #[.int .i64 0] 3)) := hb1.alloc hb1.size _
  have hs1 : (w.alloc (.cells #[.slice (some ⟨b, off, none⟩) L.length c] 24)).heap.size = w.heap.size + 1 := by simp
  have hnew := heap_alloc_new (w.alloc (.cells #[.slice (some ⟨b, off, none⟩) L.length c] 24)) (.cells #[.int .i64 0] 3)
  rw [hs1] at hnew
  have hold : ((w.alloc (.cells #[.slice (some ⟨b, off, none⟩) L.length c] 24)).alloc (.cells #[.int .i64 0] 3)).heap[w.heap.size]? = some (.cells #[.slice (some ⟨b, off, none⟩) L.length c] 24 (0, 0)) :=
    blk_below (heap_alloc_new w _) ((Below.refl _ _).alloc (Nat.le_refl _) _)
  have hI : W.heap[w.heap.size + 1]? = some (.cells #[.int .i64 0] 3 (0, 0)) := by
    rw [hW]
    first
      | exact hnew
      | exact blk_set hnew 0 (.int .i64 0)
  have hL : W.heap[w.heap.size]? = some (.cells #[.slice (some ⟨b, off, none⟩) L.length c] 24 (0, 0)) := by
    rw [hW]
    first
      | exact hold
      | exact blk_far hold (by show w.heap.size ≠ w.heap.size + 1; omega) _
  have hB : Below w.heap.size w W := by
    rw [hW]
    first
      | exact hb2
      | exact below_grown hb2 hb2.size (grown_set _ _ _ _) (by omega)
  have HI := Lib.hid hI
  have HL := Lib.hid hL
  have HB := Lib.hid hB
  clear hb1 hb2 hs1 hnew hold hI hL hB hW
  refine (contains_any L b off c c (w.heap.size + 1) w.heap.size W (Kd.C_below HC.out HB.out) HN.out.1 HI.out HL.out (by have := HN.out; omega) (by omega)).mono ?_
  rintro e w2 ⟨rfl, hg2⟩
  have HB2 := Lib.hid (below_grown HB.out HB.out.size hg2 (by omega))
  have hl2 := blk_grown HL.out hg2 (fun e => by injection e with e; omega)
  have cl : w2.cell? ⟨w.heap.size, 0, none⟩ = some (.slice (some ⟨b, off, none⟩) L.length c) := (blk_cell hl2 0).trans rfl
  have HL2 := Lib.hid hl2
  clear hl2 hg2 HB HI HL
  obtain ⟨bad, hbad⟩ : ∃ x, anyBad L L.length = x := ⟨_, rfl⟩
  rw [hbad]
  have HBad := Lib.hid hbad
  clear hbad
  cases bad with
  | true =>
    have HE := Lib.hid (show joinE L = 3 from by unfold joinE; rw [if_neg (by have := HN.out; omega), if_pos HBad.out])
    have HD := Lib.hid (show joinD L = [] from by unfold joinD; rw [HE.out]; rfl)
    go_wp2_with fail
    go_ret2
    exact ⟨_, by rw [HE.out]; rfl, by rw [HD.out]; exact Kd.R_nil _ _ _ _ _, HB2.out⟩
  | false =>
    have HE := Lib.hid (show joinE L = 0 from by unfold joinE; rw [if_neg (by have := HN.out; omega), if_neg (by rw [HBad.out]; decide)])
    have HD := Lib.hid (show joinD L = datas L from by unfold joinD; rw [HE.out]; rfl)
    have z0 : (L.length : Int) ≤ 64 := by have := good_len HBad.out HN.out.1; omega
    go_wp2_with fail
    go_loopg [6, 18] (L.length + 1) (fun g v6 v18 w' => ∃ i : Nat, v18 = .int .i64 i ∧ Hid (i ≤ L.length ∧ L.length < g + i) ∧ Hid ((Kd.int .u8).R 5 w' w.heap.size (fun _ => True) v6 (datas (L.take i))) ∧ Hid (Below w.heap.size w w'))
    case atStart => exact ⟨0, rfl, Lib.hid ⟨by omega, by omega⟩, Lib.hid (Kd.R_nil _ _ _ _ _), HB2⟩
    case round =>
      obtain ⟨i, rfl, HJ, HR, HB⟩ := hrel
      clear cl
      cases gk with
      | zero => have := HJ.out; omega
      | succ k =>
        by_cases hlt : i < L.length
        · have HJ' := Lib.hid (show i < L.length ∧ L.length < (k + 1) + i from ⟨hlt, HJ.out.2⟩)
          obtain ⟨c0, c1, c2, Aj, cj, c3, h1, h2⟩ := HCs.out i hlt
          have c0 := (HB.out.cell (p := ⟨b, off + i * 4, none⟩) HN.out.2.1).trans c0
          have c1 := (HB.out.cell (p := ⟨b, off + i * 4 + 1, none⟩) HN.out.2.1).trans c1
          have c2 := (HB.out.cell (p := ⟨b, off + i * 4 + 2, none⟩) HN.out.2.1).trans c2
          have c3 := (HB.out.cell (p := ⟨b, off + i * 4 + 3, none⟩) HN.out.2.1).trans c3
          have HC1 := Lib.hid (Kd.C_below h2 HB.out)
          have HT := Lib.hid (datas_take (L := L) hlt)
          have hl1 := datas_len HBad.out i (by omega)
          have hl2 := good_data HBad.out hlt
          have HSz := Lib.hid (show ((datas (L.take i)).length + (L.getD i zP).2.2.2.length) * 1 ≤ 140737488355328 from by omega)
          have z1 : (i : Int) < (L.length : Int) := by omega
          have z2 : (0 : Int) ≤ (i : Int) := by omega
          clear h1 h2 HJ hlt hl1 hl2
          generalize (L.getD i zP).1 = x0 at *
          generalize (L.getD i zP).2.1 = x1 at *
          generalize (L.getD i zP).2.2.1 = x2 at *
          generalize (L.getD i zP).2.2.2 = x3 at *
          have HB3 := Lib.hid (HB.out.alloc HB.out.size (.cells #[.int .u64 x0, .int .i64 x1, .int .i64 x2, .slice Aj x3.length cj] 38))
          go_wp2_with (at_builtin; refine appn (w0 := w) .u8 w.heap.size (.tmp 22) (.tmp 24) 23 5 1 rfl rfl Try.underlying23 S.info_u8 (by decide) u6 (datas (L.take i)) x3 Aj x3.length cj rfl rfl (Kd.R_alloc HR.out _) (Kd.C_alloc HC1.out _) HB3.out HB3.out.size HSz.out ?_; intro v4 w4 hr4 hb4 _; (have HR4 := Lib.hid hr4); (have HB4 := Lib.hid hb4); clear hr4 hb4)
          go_roundg k
          case measure => have := HJ'.out; omega
          case rel => exact ⟨i + 1, by go_num, Lib.hid (by have := HJ'.out; omega), Lib.hid (by rw [HT.out]; exact HR4.out), HB4⟩
        · have hi : i = L.length := by have := HJ.out; omega
          subst hi
          go_wp2_with fail
          go_ret2
          refine ⟨_, by rw [HE.out]; rfl, ?_, HB.out⟩
          have h := HR.out
          rw [List.take_length] at h
          rw [HD.out]
          exact h
end Go.Proofs.Ythgdbdhonhkkpaa.Fg
