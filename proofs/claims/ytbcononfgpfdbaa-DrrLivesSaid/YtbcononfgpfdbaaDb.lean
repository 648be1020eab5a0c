/-
  drr: New, made, find.
-/
import Derived.Test.YtbcononfgpfdbaaDa
namespace Go.Proofs.Ytbcononfgpfdbaa.D
open Go.RowKit Go.Proofs.Ytbcononfgpfdbaa.L Go.Proofs.YtbcononfgpfdbaaW.PrintWords

set_option maxHeartbeats 400000 in
theorem new_no (q : Int) (w : World) (h : q < 1 ∨ 65536 < q) : Calls Try.prog 15 #[.int .i64 q] w fun e w' => e = .returned (.tuple #[.pointer none, .int .i64 1]) ∧ w' = w := by
  rcases h with h | h
  · have t1 : decide (q < 1) = true := by simpa using h
    clear h
    go_enter Try.func15, Try.ntmps15
    go_wp2
    go_ret2
    exact ⟨rfl, rfl⟩
  · have t1 : decide (q < 1) = false := by simp; omega
    have t2 : decide (65536 < q) = true := by simpa using h
    clear h
    go_enter Try.func15, Try.ntmps15
    go_wp2
    go_ret2
    exact ⟨rfl, rfl⟩
set_option maxHeartbeats 400000 in
theorem new_yes (q : Int) (w : World) (h1 : 1 ≤ q) (h2 : q ≤ 65536) : Calls Try.prog 15 #[.int .i64 q] w fun e w' => ∃ b, e = .returned (.tuple #[.pointer (some ⟨b, 0, none⟩), .int .i64 0]) ∧ RG b q [] w.heap.size w' ∧ Below w.heap.size w w' := by
  have t1 : decide (q < 1) = false := by simp; omega
  have t2 : decide (65536 < q) = false := by simp; omega
  clear h1 h2
  go_enter Try.func15, Try.ntmps15
  go_wp2
  go_ret2
  exact ⟨_, rfl, ⟨.slice none 0 0, heap_alloc_new w _, Nat.le_refl _, Kd.R_nil _ _ _ _ _⟩, (Below.refl _ _).alloc (Nat.le_refl _) _⟩
set_option maxHeartbeats 400000 in
theorem made_any (b : Nat) (q : Int) (w : World) (h : w.cell? ⟨b, 0, none⟩ = some (.int .i64 q)) (hq : 1 ≤ q) : Calls Try.prog 45 #[.pointer (some ⟨b, 0, none⟩)] w fun e w' => e = .returned (.bool true) ∧ w = w' := by
  have t1 : decide (0 < q) = true := by simp; omega
  clear hq
  go_enter Try.func45, Try.ntmps45
  go_wp2
  go_ret
  exact ⟨rfl, rfl⟩
set_option maxHeartbeats 400000 in
theorem made_zero (b : Nat) (w : World) (h : w.cell? ⟨b, 0, none⟩ = some (.int .i64 0)) : Calls Try.prog 45 #[.pointer (some ⟨b, 0, none⟩)] w fun e w' => e = .returned (.bool false) ∧ w = w' := by
  go_enter Try.func45, Try.ntmps45
  go_wp2
  go_ret
  exact ⟨rfl, rfl⟩
set_option maxHeartbeats 400000 in
theorem made_nil (w : World) : Calls Try.prog 45 #[.pointer none] w fun e w' => e = .returned (.bool false) ∧ w = w' := by
  go_enter Try.func45, Try.ntmps45
  go_wp2
  go_ret
  exact ⟨rfl, rfl⟩

set_option maxHeartbeats 400000 in
theorem same_id (m : Mem) (id : Int) (g : Nat) (w : World) (h : w.cell? ⟨g, 0, none⟩ = some (.int .u64 id)) (hg : g < w.heap.size) :
    Calls Try.prog 61 #[.agg #[.int .u64 m.1, .int .i64 m.2], .pointer (some ⟨g, 0, none⟩)] w fun e w' => e = .returned (.bool (m.1 == id)) ∧ Below w.heap.size w w' := by
  have h' : (w.alloc (.cells #[.int .u64 m.1, .int .i64 m.2] 102)).cell? ⟨g, 0, none⟩ = some (.int .u64 id) := pw_cell_below ((Below.refl _ _).alloc (Nat.le_refl _) _) h
  clear h
  go_enter Try.func61, Try.ntmps61
  go_wp2
  go_ret
  exact ⟨rfl, (Below.refl _ _).alloc (Nat.le_refl _) _⟩

def fndI (id : Int) (L : List Mem) : Int := if fnd id L < L.length then (fnd id L : Int) else -1
theorem fnd_at {id : Int} {L : List Mem} {k : Nat} (hk : k < L.length) (h : (L.getD k zM).1 = id) (hno : k ≤ fnd id L) : fnd id L = k := by
  have : ¬ k < fnd id L := fun hlt => by
    have := List.not_of_lt_findIdx (p := fun m : Mem => m.1 == id) (xs := L) (i := k) hlt
    rw [List.getD_eq_getElem?_getD, List.getElem?_eq_getElem hk] at h
    simp at this h
    exact this h
  omega
theorem fnd_not {id : Int} {L : List Mem} {k : Nat} (hk : k < L.length) (h : (L.getD k zM).1 ≠ id) (hno : k ≤ fnd id L) : k + 1 ≤ fnd id L := by
  rcases Nat.lt_or_ge k (fnd id L) with h1 | h1
  · exact h1
  · have e : fnd id L = k := by omega
    exact absurd (e ▸ fnd_get (by omega)) h
set_option maxHeartbeats 1600000 in
set_option maxRecDepth 100000 in
theorem index_any (L : List Mem) (A : Option Addr) (c : Nat) (id : Int) (g : Nat) (w : World) (hC : kM.C w A L.length L) (hc : L.length ≤ c) (h : w.cell? ⟨g, 0, none⟩ = some (.int .u64 id)) (hg : g < w.heap.size) :
    Calls Try.prog 60 #[.slice A L.length c, .func (.func 61) #[] #[.pointer (some ⟨g, 0, none⟩)]] w fun e w' => e = .returned (.int .i64 (fndI id L)) ∧ Below w.heap.size w w' := by
  have hmax := (M_open hC).1
  have HC := Lib.hid hC
  have HG := Lib.hid hg
  have HK := Lib.hid h
  clear hC hg h
  go_enter Try.func60, Try.ntmps60
  go_wp2_with fail
  go_loopg [8] (L.length + 1) (fun g v8 w' => ∃ (m : Nat), v8 = .int .i64 m ∧ Hid (m ≤ L.length ∧ L.length < g + m) ∧ Hid (m ≤ fnd id L) ∧ Hid (Below w.heap.size w w'))
  case atStart => exact ⟨0, rfl, Lib.hid ⟨by omega, by omega⟩, Lib.hid (Nat.zero_le _), Lib.hid (Below.refl _ _)⟩
  case round =>
    obtain ⟨m, rfl, HJ, HF, HB⟩ := hrel
    cases gk with
    | zero => have := HJ.out; omega
    | succ k =>
      by_cases hlt : m < L.length
      · rcases (M_open HC.out).2 with e | ⟨bo, off, rfl, hbo, hcells⟩
        · subst e; simp at hlt
        obtain ⟨c0, c1⟩ := hcells m hlt
        have c0 := (HB.out.cell (p := ⟨bo, off + m * 2, none⟩) hbo).trans c0
        have c1 := (HB.out.cell (p := ⟨bo, off + m * 2 + 1, none⟩) hbo).trans c1
        clear hcells
        have HGW := Lib.hid (show g < wr.heap.size from by have := HG.out; have := HB.out.size; omega)
        have HKW := Lib.hid (show wr.cell? ⟨g, 0, none⟩ = some (.int .u64 id) from (HB.out.cell (p := ⟨g, 0, none⟩) HG.out).trans HK.out)
        have hs := same_id (L.getD m zM) id g wr HKW.out HGW.out
        have HN := Lib.hid (fun h => fnd_not (id := id) hlt h HF.out)
        have HA := Lib.hid (fun h => fnd_at (id := id) hlt h HF.out)
        have HJ' := Lib.hid (show m < L.length ∧ L.length < (k + 1) + m from ⟨hlt, HJ.out.2⟩)
        clear HJ HF hbo
        generalize L.getD m zM = mm at *
        have HS := Lib.hid hs
        clear hs
        by_cases he : mm.1 = id
        · have tt : (mm.1 == id) = true := by simpa using he
          rw [tt] at HS
          have HE := Lib.hid he
          clear he tt
          go_wp2_with (go_at_call 61; refine HS.out.mono ?_; rintro e w1 ⟨rfl, hb1⟩; (have HB1 := Lib.hid hb1); clear hb1 c0 c1)
          go_ret
          refine ⟨?_, stay1 HB.out HB1.out⟩
          have := HA.out HE.out
          unfold fndI
          rw [this, if_pos HJ'.out.1]
          rfl
        · have tt : (mm.1 == id) = false := by simpa using he
          rw [tt] at HS
          have HE := Lib.hid he
          clear he tt
          go_wp2_with (go_at_call 61; refine HS.out.mono ?_; rintro e w1 ⟨rfl, hb1⟩; (have HB1 := Lib.hid hb1); clear hb1 c0 c1)
          go_roundg k
          case measure => have := HJ'.out; omega
          case rel => exact ⟨m + 1, by go_num, Lib.hid (by have := HJ'.out; omega), Lib.hid (HN.out HE.out), Lib.hid (stay1 HB.out HB1.out)⟩
      · have hm : m = L.length := by have := HJ.out; omega
        go_wp2_with fail
        go_ret
        refine ⟨?_, HB.out⟩
        have := HF.out
        unfold fndI
        rw [if_neg (by omega)]
        rfl
set_option maxHeartbeats 800000 in
theorem find_any (b B : Nat) (q : Int) (L : List Mem) (id : Int) (w : World) (h : RG b q L B w) : Calls Try.prog 46 #[.pointer (some ⟨b, 0, none⟩), .int .u64 id] w fun e w' => e = .returned (.int .i64 (fndI id L)) ∧ Below w.heap.size w w' := by
  obtain ⟨A, c, hb, hc, hC, k0, k1, kf, hR, hB⟩ := h.opens
  have hb1 : Below w.heap.size w (w.alloc (.cells #[.int .u64 id] 29)) := (Below.refl _ _).alloc (Nat.le_refl _) _
  have hn := heap_alloc_new w (.cells #[.int .u64 id] 29)
  have hI := Lib.hid (index_any L A c id w.heap.size _ (Kd.C_below hC hb1) hc (by rw [blk_cell hn]; rfl) (by simp))
  have HB := Lib.hid hb1
  have k1' := pw_cell_below hb1 k1
  have hmf : ∀ (fn : Fn) (first cap : Array Value) (w : World), (Instr.makeFunc fn first cap).run Try.prog w = .ok (.func fn first cap) w := fun _ _ _ _ => by rfl
  clear hb hC hc k0 kf hR hB h hb1 hn
  go_enter Try.func46, Try.ntmps46
  go_wp2_with (go_at_call 60; refine hI.out.mono ?_; rintro e w1 ⟨rfl, hb1⟩; (have HB1 := Lib.hid hb1); clear hb1)
  go_ret
  exact ⟨rfl, stay1 HB.out HB1.out⟩
end Go.Proofs.Ytbcononfgpfdbaa.D
