/-
  frag: Join (its search, and the whole).
-/
import Derived.Test.YthgdbdhonhkkpaaGc
import Derived.Deep.DeepCutAuto
import Derived.Deep.CutRange
namespace Go.Proofs.Ythgdbdhonhkkpaa.Fg
open Go.RowKit Go.Proofs.Ythgdbdhonhkkpaa.L Go.Proofs.Ythgdbdhonhkkpaa.V Go.Proofs.Ythgdbdhonhkkpaa.N Go.Proofs.YthgdbdhonhkkpaaW.PrintWords

def badAt (L : List Pt) (j : Nat) : Bool := badP (L.getD 0 zP).1 L.length j (L.getD j zP)
def anyBad (L : List Pt) (i : Nat) : Bool := (List.range i).any (badAt L)
theorem anyBad_succ (L : List Pt) (i : Nat) : anyBad L (i + 1) = (anyBad L i || badAt L i) := by simp [anyBad, List.range_succ]
theorem anyBad_true {L : List Pt} {i n : Nat} (h : i < n) (hb : badAt L i = true) : anyBad L n = true := List.any_eq_true.2 ⟨i, List.mem_range.2 h, hb⟩
theorem anyBad_false {L : List Pt} {i n : Nat} (h : anyBad L n = false) (hi : i < n) : badAt L i = false := by
  cases hb : badAt L i with
  | false => rfl
  | true => rw [anyBad_true hi hb] at h; cases h
theorem cell_grown {w w1 : World} {g b o : Nat} {v : Value} (hg : w.grownBy w1 (some g)) (hb : b < w.heap.size) (hne : b ≠ g) (h : w.cell? ⟨b, o, none⟩ = some v) : w1.cell? ⟨b, o, none⟩ = some v :=
  (World.cell?_of_block (hg.block b hb (fun e => by injection e with e; exact hne e))).trans h
set_option maxRecDepth 100000 in
set_option maxHeartbeats 1600000 in
theorem index_any (L : List Pt) (b off c cl gi gl : Nat) (w : World) (hC : kP.C w (some ⟨b, off, none⟩) L.length L) (h0 : 0 < L.length) (hI : w.heap[gi]? = some (.cells #[.int .i64 0] 3 (0, 0))) (hL : w.heap[gl]? = some (.cells #[.slice (some ⟨b, off, none⟩) L.length cl] 24 (0, 0)))
    (hgb : gi ≠ b) (hgl : gi ≠ gl) :
    Calls Try.prog 102 #[.slice (some ⟨b, off, none⟩) L.length c, .func (.func 58) #[] #[.pointer (some ⟨gi, 0, none⟩), .pointer (some ⟨gl, 0, none⟩)]] w fun e w' => (∃ r : Int, e = .returned (.int .i64 r) ∧ decide (0 ≤ r) = anyBad L L.length) ∧ w.grownBy w' (some gi) := by
  have hmx := (P_open hC).1
  have hop := (P_open hC).2.resolve_left (fun h => by rw [h] at h0; simp at h0)
  obtain ⟨b', off', e1, hbl, hcells⟩ := hop
  injection e1 with e1
  injection e1 with e1 e2
  subst e1 e2
  have HCs := Lib.hid hcells
  have HI := Lib.hid hI
  have HL := Lib.hid hL
  have HN := Lib.hid (show 0 < L.length ∧ b < w.heap.size ∧ gi ≠ b ∧ gi ≠ gl from ⟨h0, hbl, hgb, hgl⟩)
  clear hC h0 hI hL hgb hgl hbl hcells
  go_enter Try.func102, Try.ntmps102
  go_wp2_with fail
  go_loopg [8] (L.length + 1) (fun g v8 w' => ∃ i : Nat, v8 = .int .i64 i ∧ Hid (i ≤ L.length ∧ L.length < g + i) ∧ Hid (anyBad L i = false) ∧ Hid (w.grownBy w' (some gi)) ∧ Hid (w'.heap[gi]? = some (.cells #[.int .i64 (i : Int)] 3 (0, 0))))
  case atStart => exact ⟨0, rfl, Lib.hid ⟨by omega, by omega⟩, Lib.hid rfl, Lib.hid (World.grownBy.refl _ _), HI⟩
  case round =>
    obtain ⟨i, rfl, HJ, HA, HG, HI2⟩ := hrel
    cases gk with
    | zero => have := HJ.out; omega
    | succ k =>
      by_cases hlt : i < L.length
      · have HJ' := Lib.hid (show i < L.length ∧ L.length < (k + 1) + i from ⟨hlt, HJ.out.2⟩)
        obtain ⟨c0, c1, c2, Aj, cj, c3, h1, h2⟩ := HCs.out i hlt
        have hne : b ≠ gi := fun e => HN.out.2.2.1 e.symm
        have c0 := cell_grown HG.out HN.out.2.1 hne c0
        have c1 := cell_grown HG.out HN.out.2.1 hne c1
        have c2 := cell_grown HG.out HN.out.2.1 hne c2
        have c3 := cell_grown HG.out HN.out.2.1 hne c3
        have k0 := (HCs.out 0 HN.out.1).1
        rw [Nat.zero_mul, Nat.add_zero] at k0
        have hs := join1_any (L.getD i zP).1 (L.getD i zP).2.1 (L.getD i zP).2.2.1 (L.getD 0 zP).1 (L.getD i zP).2.2.2 L.length i cj cl off b gi gl Aj wr HI2.out (blk_grown HL.out HG.out (fun e => by injection e with e; exact HN.out.2.2.2 e.symm)) (cell_grown HG.out HN.out.2.1 hne k0) (Nat.lt_of_lt_of_le HN.out.2.1 HG.out.size) HN.out.2.2.1 HN.out.2.2.2 HN.out.1 hmx hlt
        have hS := anyBad_succ L i
        rw [HA.out, Bool.false_or] at hS
        have hT := fun h => anyBad_true (L := L) hlt h
        rw [show badP (L.getD 0 zP).1 L.length i ((L.getD i zP).1, (L.getD i zP).2.1, (L.getD i zP).2.2.1, (L.getD i zP).2.2.2) = badAt L i from rfl] at hs
        generalize badAt L i = bd at hs hS hT
        have HS := Lib.hid hS
        have HT := Lib.hid hT
        have HQ := Lib.hid hs
        have z1 : (i : Int) < (L.length : Int) := by omega
        have z2 : (0 : Int) ≤ (i : Int) := by omega
        clear hs hS hT k0 hne h1 h2 HJ HA hlt
        generalize (L.getD i zP).1 = x0 at *
        generalize (L.getD i zP).2.1 = x1 at *
        generalize (L.getD i zP).2.2.1 = x2 at *
        generalize (L.getD i zP).2.2.2 = x3 at *
        cases bd with
        | true =>
          go_wp2_with (go_at_call 58; refine HQ.out.mono ?_; rintro e w2 ⟨rfl, hg2, hi2⟩; (have HG2 := Lib.hid (HG.out.trans hg2)); clear hg2 hi2 HQ)
          go_ret
          exact ⟨⟨(i : Int), rfl, by rw [HT.out trivial]; exact decide_eq_true z2⟩, HG2.out⟩
        | false =>
          go_wp2_with (go_at_call 58; refine HQ.out.mono ?_; rintro e w2 ⟨rfl, hg2, hi2⟩; (have HG2 := Lib.hid (HG.out.trans hg2)); (have HI3 := Lib.hid hi2); clear hg2 hi2 HQ)
          go_roundg k
          case measure => have := HJ'.out; omega
          case rel => exact ⟨i + 1, by go_num, Lib.hid (by have := HJ'.out; omega), HS, HG2, HI3⟩
      · have hi : i = L.length := by have := HJ.out; omega
        subst hi
        go_wp2_with fail
        go_ret
        exact ⟨⟨-1, rfl, by rw [HA.out]; rfl⟩, HG.out⟩
set_option maxRecDepth 100000 in
set_option maxHeartbeats 800000 in
theorem contains_any (L : List Pt) (b off c cl gi gl : Nat) (w : World) (hC : kP.C w (some ⟨b, off, none⟩) L.length L) (h0 : 0 < L.length) (hI : w.heap[gi]? = some (.cells #[.int .i64 0] 3 (0, 0))) (hL : w.heap[gl]? = some (.cells #[.slice (some ⟨b, off, none⟩) L.length cl] 24 (0, 0)))
    (hgb : gi ≠ b) (hgl : gi ≠ gl) :
    Calls Try.prog 57 #[.slice (some ⟨b, off, none⟩) L.length c, .func (.func 58) #[] #[.pointer (some ⟨gi, 0, none⟩), .pointer (some ⟨gl, 0, none⟩)]] w fun e w' => e = .returned (.bool (anyBad L L.length)) ∧ w.grownBy w' (some gi) := by
  have HQ := Lib.hid (index_any L b off c cl gi gl w hC h0 hI hL hgb hgl)
  clear hC h0 hI hL hgb hgl
  go_enter Try.func57, Try.ntmps57
  go_wp2_with (go_at_call 102; refine HQ.out.mono ?_; rintro e w2 ⟨⟨r, rfl, hr⟩, hg2⟩; (have HR := Lib.hid hr); (have HG2 := Lib.hid hg2); clear hr hg2 HQ)
  go_ret
  exact ⟨by rw [← HR.out]; rfl, HG2.out⟩
end Go.Proofs.Ythgdbdhonhkkpaa.Fg
