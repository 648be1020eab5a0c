/-
  drr: the document's ring in memory; its find, Credit, Members.
-/
import Derived.Test.YtbcononfgpfdbaaDk
import Derived.Test.YtbcononfgpfdbaaQd
namespace Go.Proofs.Ytbcononfgpfdbaa.D
open Go.RowKit Go.Proofs.Ytbcononfgpfdbaa.L Go.Proofs.YtbcononfgpfdbaaW.PrintWords

abbrev tX : TypeId := 42
abbrev tI : TypeId := 3
theorem info_i64 : (Try.prog.info? tI).map (fun i => (i.zero, i.size, i.bytes)) = some (some (.int .i64 0), 1, 8) := by kernel_rfl

/-- what the document's ring's calls leave alone -/
structure FX (B : Nat) (w w' : World) : Prop where
  os : w'.os = w.os
  tape : w'.tape = w.tape
  output : w'.output = w.output
  size : w.heap.size ≤ w'.heap.size
  low : ∀ k, k < B → w'.heap[k]? = w.heap[k]?
  typ : ∀ (k : Nat) (cs : Array Value) (t : TypeId) (fr : Nat × Nat), w.heap[k]? = some (Obj.cells cs t fr) → t ≠ tX → t ≠ tI → w'.heap[k]? = w.heap[k]?
theorem FX.refl (B : Nat) (w : World) : FX B w w := ⟨rfl, rfl, rfl, Nat.le_refl _, fun _ _ => rfl, fun _ _ _ _ _ _ _ => rfl⟩
theorem FX.trans {B : Nat} {w w1 w2 : World} (h : FX B w w1) (h' : FX B w1 w2) : FX B w w2 :=
  ⟨h'.os.trans h.os, h'.tape.trans h.tape, h'.output.trans h.output, Nat.le_trans h.size h'.size, fun k hk => (h'.low k hk).trans (h.low k hk), fun k cs t fr hb h1 h2 => (h'.typ k cs t fr ((h.typ k cs t fr hb h1 h2).trans hb) h1 h2).trans (h.typ k cs t fr hb h1 h2)⟩
theorem FX.of_below {B : Nat} {w w1 : World} (h : Below w.heap.size w w1) (hB : B ≤ w.heap.size) : FX B w w1 :=
  ⟨h.os, h.tape, h.output, h.size, fun k hk => h.block k (by omega), fun k _ _ _ hb _ _ => h.block k (Array.getElem?_eq_some_iff.1 hb).1⟩
theorem FX.drew {B : Nat} (w : World) : FX B w w.drew := ⟨rfl, rfl, rfl, Nat.le_refl _, fun _ _ => rfl, fun _ _ _ _ _ _ _ => rfl⟩
theorem FX.set {B : Nat} {w : World} {g i : Nat} {u : Value} {cs : Array Value} {t : TypeId} (hb : w.heap[g]? = some (.cells cs t (0, 0))) (hB : B ≤ g) (ht : t = tX ∨ t = tI) : FX B w (w.setCell ⟨g, i, none⟩ u) :=
  ⟨rfl, rfl, rfl, by simp [World.setCell], fun k hk => Below.heap_setCell _ _ _ _ (fun e => by have : k = g := e; omega), fun k cs' t' fr hk h1 h2 => Below.heap_setCell _ _ _ _ (fun e => by
    have e : k = g := e
    subst e
    rw [hb] at hk
    injection hk with hk
    injection hk with _ hk _
    subst hk
    rcases ht with h | h
    · exact h1 h
    · exact h2 h)⟩
theorem FX.below {B : Nat} {w w1 : World} (h : FX B w w1) : Below B w w1 := ⟨h.os, h.tape, h.output, h.size, h.low⟩

/-- the document's ring in memory: its quantum, the circle, the place -/
def XB (b : Nat) (q : Int) (v1 v2 : Value) (n : Int) (w : World) : Prop := w.heap[b]? = some (.cells #[.int .i64 q, v1, v2, .int .i64 n] tX (0, 0))
structure XR (b : Nat) (q : Int) (Z : List Mem) (n : Nat) (B : Nat) (w : World) : Prop where
  ex : ∃ v1 v2, XB b q v1 v2 n w ∧ B ≤ b ∧ (Kd.int .u64).R tU w B (fun _ => True) v1 (Z.map (·.1)) ∧ (Kd.int .i64).R tI w B (fun _ => True) v2 (Z.map (·.2))
theorem XB.lt {b : Nat} {q n : Int} {v1 v2 : Value} {w : World} (h : XB b q v1 v2 n w) : b < w.heap.size := blk_lt h
theorem XB.s1 {b : Nat} {q n : Int} {v1 v2 : Value} {w : World} (h : XB b q v1 v2 n w) (u : Value) : XB b q u v2 n (w.setCell ⟨b, 1, none⟩ u) := by simpa [XB] using blk_set h 1 u
theorem XB.s2 {b : Nat} {q n : Int} {v1 v2 : Value} {w : World} (h : XB b q v1 v2 n w) (u : Value) : XB b q v1 u n (w.setCell ⟨b, 2, none⟩ u) := by simpa [XB] using blk_set h 2 u
theorem XB.s3 {b : Nat} {q n : Int} {v1 v2 : Value} {w : World} (h : XB b q v1 v2 n w) (m : Int) : XB b q v1 v2 m (w.setCell ⟨b, 3, none⟩ (.int .i64 m)) := by simpa [XB] using blk_set h 3 (.int .i64 m)
theorem XB.cells {b : Nat} {q n : Int} {v1 v2 : Value} {w : World} (h : XB b q v1 v2 n w) : w.cell? ⟨b, 0, none⟩ = some (.int .i64 q) ∧ w.cell? ⟨b, 1, none⟩ = some v1 ∧ w.cell? ⟨b, 2, none⟩ = some v2 ∧ w.cell? ⟨b, 3, none⟩ = some (.int .i64 n) ∧ ∀ i, w.frozen? ⟨b, i, none⟩ = false :=
  ⟨by rw [blk_cell h]; rfl, by rw [blk_cell h]; rfl, by rw [blk_cell h]; rfl, by rw [blk_cell h]; rfl, fun i => blk_frozen h i⟩
theorem row_set {k : IntKind} {e b i B : Nat} {q n : Int} {v1 v2 v u : Value} {xs : List Int} {w : World} (h : (Kd.int k).R e w B (fun _ => True) v xs) (hb : XB b q v1 v2 n w) (he : e ≠ tX) : (Kd.int k).R e (w.setCell ⟨b, i, none⟩ u) B (fun _ => True) v xs :=
  Kd.R_set h hb (by intro q hq; simp [show (Kd.int k).E = [] from rfl] at hq; subst hq; exact he) i u
theorem XR.lt {b B n : Nat} {q : Int} {Z : List Mem} {w : World} (h : XR b q Z n B w) : b < w.heap.size := by
  obtain ⟨v1, v2, h1, _⟩ := h.ex
  exact h1.lt
theorem XR.base {b B n : Nat} {q : Int} {Z : List Mem} {w : World} (h : XR b q Z n B w) : B ≤ w.heap.size := by
  have := h.lt
  obtain ⟨v1, v2, _, h2, _⟩ := h.ex
  omega
theorem XR.below {b B n : Nat} {q : Int} {Z : List Mem} {w w1 : World} (h : XR b q Z n B w) (hb : Below w.heap.size w w1) : XR b q Z n B w1 := by
  obtain ⟨v1, v2, h1, h2, h3, h4⟩ := h.ex
  exact ⟨v1, v2, blk_below h1 hb, h2, Kd.R_below h3 hb, Kd.R_below h4 hb⟩
/-- laid open -/
theorem XR.opens {b B n : Nat} {q : Int} {Z : List Mem} {w : World} (h : XR b q Z n B w) : ∃ A1 c1 A2 c2, XB b q (.slice A1 Z.length c1) (.slice A2 Z.length c2) n w ∧ B ≤ b ∧
    (Kd.int .u64).R tU w B (fun _ => True) (.slice A1 Z.length c1) (Z.map (·.1)) ∧ (Kd.int .i64).R tI w B (fun _ => True) (.slice A2 Z.length c2) (Z.map (·.2)) := by
  obtain ⟨v1, v2, h1, h2, h3, h4⟩ := h.ex
  obtain ⟨A1, c1, rfl, _, _⟩ := Kd.R_reads h3
  obtain ⟨A2, c2, rfl, _, _⟩ := Kd.R_reads h4
  rw [List.length_map] at h1 h3 h4
  rw [List.length_map] at h1
  exact ⟨A1, c1, A2, c2, h1, h2, h3, h4⟩
theorem map_getD1 {Z : List Mem} {j : Nat} (h : j < Z.length) : (Z.map (·.1)).getD j 0 = (Z.getD j zM).1 := by
  simp only [List.getD_eq_getElem?_getD, List.getElem?_map, List.getElem?_eq_getElem h]
  rfl
theorem map_getD2 {Z : List Mem} {j : Nat} (h : j < Z.length) : (Z.map (·.2)).getD j 0 = (Z.getD j zM).2 := by
  simp only [List.getD_eq_getElem?_getD, List.getElem?_map, List.getElem?_eq_getElem h]
  rfl
/-- a row that is not empty: where it lies, what it holds -/
theorem row_at {k : IntKind} {e B n c : Nat} {ok : Nat → Prop} {w : World} {A : Option Addr} {xs : List Int} (h : (Kd.int k).R e w B ok (.slice A n c) xs) (h0 : 0 < xs.length) :
    ∃ g, A = some ⟨g, 0, none⟩ ∧ B ≤ g ∧ (∃ cs, w.heap[g]? = some (.cells cs e (0, 0))) ∧ ∀ j, j < xs.length → w.cell? ⟨g, j, none⟩ = some (.int k (xs.getD j 0)) := by
  obtain ⟨inner, ho⟩ := Kd.R_own h
  have hl := ho.1
  rcases ho.2 with ⟨_, hn⟩ | ⟨g, cap, cur, hv, hB, hb, _⟩
  · omega
  · injection hv with hA _ _
    subst hA
    refine ⟨g, rfl, hB, ⟨cur, hb⟩, fun j hj => ?_⟩
    have := row_cell h hj
    rwa [Nat.zero_add] at this

set_option maxHeartbeats 1600000 in
set_option maxRecDepth 100000 in
theorem xfind_any (b B n : Nat) (q : Int) (Z : List Mem) (id : Int) (w : World) (h : XR b q Z n B w) (hn : Z.length ≤ 1000000) : Calls Try.prog 49 #[.pointer (some ⟨b, 0, none⟩), .int .u64 id] w fun e w' => e = .returned (.int .i64 (fndI id Z)) ∧ w = w' := by
  obtain ⟨A1, c1, A2, c2, hx, hB, h1, h2⟩ := h.opens
  obtain ⟨k0, k1, k2, k3, kf⟩ := hx.cells
  have H1 := Lib.hid h1
  clear hx h2 k0 k2 k3 kf h h1 hB
  go_enter Try.func49, Try.ntmps49
  go_wp2_with fail
  go_loopg [5] (Z.length + 1) (fun g v5 w' => ∃ (m : Nat), v5 = .int .i64 m ∧ Hid (m ≤ Z.length ∧ Z.length < g + m) ∧ Hid (m ≤ fnd id Z) ∧ Hid (w = w'))
  case atStart => exact ⟨0, rfl, Lib.hid ⟨by omega, by omega⟩, Lib.hid (Nat.zero_le _), Lib.hid rfl⟩
  case round =>
    obtain ⟨m, rfl, HJ, HF, HW⟩ := hrel
    obtain rfl := HW.out
    cases gk with
    | zero => have := HJ.out; omega
    | succ k =>
      by_cases hlt : m < Z.length
      · obtain ⟨g, rfl, _, _, hc⟩ := row_at H1.out (by rw [List.length_map]; omega)
        have c0 := hc m (by rw [List.length_map]; exact hlt)
        rw [map_getD1 hlt] at c0
        clear hc
        have HN := Lib.hid (fun h => fnd_not (id := id) hlt h HF.out)
        have HA := Lib.hid (fun h => fnd_at (id := id) hlt h HF.out)
        have HJ' := Lib.hid (show m < Z.length ∧ Z.length < (k + 1) + m from ⟨hlt, HJ.out.2⟩)
        clear HJ HF HW
        generalize (Z.getD m zM).1 = y at *
        by_cases he : y = id
        · have tt : (y == id) = true := by simpa using he
          have HE := Lib.hid he
          clear he
          go_wp2_with fail
          go_ret
          refine ⟨?_, rfl⟩
          have := HA.out HE.out
          unfold fndI
          rw [this, if_pos HJ'.out.1]
          rfl
        · have tt : (y == id) = false := by simpa using he
          have HE := Lib.hid he
          clear he
          go_wp2_with fail
          go_roundg k
          case measure => have := HJ'.out; omega
          case rel => exact ⟨m + 1, by go_num, Lib.hid (by have := HJ'.out; omega), Lib.hid (HN.out HE.out), Lib.hid rfl⟩
      · have hm : m = Z.length := by have := HJ.out; omega
        go_wp2_with fail
        go_ret
        refine ⟨?_, rfl⟩
        have := HF.out
        unfold fndI
        rw [if_neg (by omega)]
        rfl
set_option maxHeartbeats 1600000 in
set_option maxRecDepth 100000 in
theorem xcredit_any (b B n : Nat) (q : Int) (Z : List Mem) (id : Int) (w : World) (h : XR b q Z n B w) (hn : Z.length ≤ 1000000) : Calls Try.prog 27 #[.pointer (some ⟨b, 0, none⟩), .int .u64 id] w fun e w' => e = .returned (.int .i64 (credP Z id)) ∧ w = w' := by
  have HF := Lib.hid (xfind_any b B n q Z id w h hn)
  obtain ⟨A1, c1, A2, c2, hx, hB, h1, h2⟩ := h.opens
  obtain ⟨k0, k1, k2, k3, kf⟩ := hx.cells
  unfold credP
  by_cases hf : fnd id Z < Z.length
  · rw [if_pos hf]
    have e1 : fndI id Z = fnd id Z := by unfold fndI; rw [if_pos hf]
    rw [e1] at HF
    obtain ⟨g, rfl, _, _, hc⟩ := row_at h2 (by rw [List.length_map]; omega)
    have c0 := hc _ (by rw [List.length_map]; exact hf)
    rw [map_getD2 hf] at c0
    generalize (Z.getD (fnd id Z) zM).2 = y at *
    have hk1 : (0 : Int) ≤ (fnd id Z : Int) := by omega
    clear hx h1 h2 k0 k1 k3 kf h hB hc e1
    generalize fnd id Z = k at *
    go_enter Try.func27, Try.ntmps27
    go_wp2_with fail
    refine HF.out.mono ?_
    rintro e w1 ⟨rfl, rfl⟩
    go_wp2_with fail
    go_ret
    exact ⟨rfl, rfl⟩
  · rw [if_neg hf]
    have e1 : fndI id Z = -1 := by unfold fndI; rw [if_neg hf]
    rw [e1] at HF
    clear hx h1 h2 k0 k1 k2 k3 kf h hB e1
    go_enter Try.func27, Try.ntmps27
    go_wp2_with fail
    refine HF.out.mono ?_
    rintro e w1 ⟨rfl, rfl⟩
    go_wp2_with fail
    go_ret
    exact ⟨rfl, rfl⟩
set_option maxHeartbeats 3200000 in
set_option maxRecDepth 100000 in
theorem xmembers_any (b B n : Nat) (q : Int) (Z : List Mem) (w : World) (h : XR b q Z n B w) (hn : Z.length ≤ 1000000) (hat : n < Z.length ∨ (Z = [] ∧ n = 0)) : Calls Try.prog 25 #[.pointer (some ⟨b, 0, none⟩)] w fun e w' => ∃ v0 : Value, e = .returned v0 ∧ (Kd.int .u64).R tU w' w.heap.size (fun _ => True) v0 ((rot n Z).map (·.1)) ∧ Below w.heap.size w w' := by
  obtain ⟨A1, c1, A2, c2, hx, hB, h1, h2⟩ := h.opens
  obtain ⟨k0, k1, k2, k3, kf⟩ := hx.cells
  have H1 := Lib.hid h1
  have HX := Lib.hid hx
  clear hx h2 k0 k1 k2 k3 kf h h1 hB
  go_enter Try.func25, Try.ntmps25
  go_wp2_with fail
  go_loopg [3, 4] (Z.length + 1) (fun g v3 v4 w' => ∃ (m : Nat) (xs : List Int), v4 = .int .i64 m ∧ Hid (m ≤ Z.length ∧ Z.length < g + m) ∧ Hid (xs = ((rot n Z).take m).map (·.1)) ∧ Hid ((Kd.int .u64).R tU w' w.heap.size (fun _ => True) v3 xs) ∧ Hid (Below w.heap.size w w'))
  case atStart => exact ⟨0, [], rfl, Lib.hid ⟨by omega, by omega⟩, Lib.hid rfl, Lib.hid (Kd.R_nil _ _ _ _ _), Lib.hid (Below.refl _ _)⟩
  case round =>
    obtain ⟨m, xs, rfl, HJ, HS, HR, HB⟩ := hrel
    cases gk with
    | zero => have := HJ.out; omega
    | succ k =>
      obtain ⟨_, k1, _, k3, _⟩ := (show XB b q (.slice A1 Z.length c1) (.slice A2 Z.length c2) n wr from blk_below HX.out HB.out).cells
      by_cases hlt : m < Z.length
      · have hnz : n < Z.length := by
          rcases hat with h | ⟨h, _⟩
          · exact h
          · subst h; simp at hlt
        obtain ⟨g, rfl, _, _, hc⟩ := row_at H1.out (by rw [List.length_map]; omega)
        have hj : (n + m) % Z.length < Z.length := Nat.mod_lt _ (by omega)
        have c0 := hc _ (by rw [List.length_map]; exact hj)
        rw [map_getD1 hj, ← rot_getD hnz m hlt] at c0
        have hgl := World.block_lt_of_cell? w _ c0
        have c0 := pw_cell_below HB.out c0
        have HT := Lib.hid (show xs ++ [((rot n Z).getD m zM).1] = ((rot n Z).take (m + 1)).map (·.1) from by
          have hl : m < (rot n Z).length := by rw [rot_length]; exact hlt
          rw [HS.out, List.take_succ_eq_append_getElem hl, List.map_append, List.getD_eq_getElem?_getD, List.getElem?_eq_getElem hl]
          rfl)
        have hlen := congrArg List.length HS.out
        simp [rot_length] at hlen
        have HJ' := Lib.hid (show m < Z.length ∧ Z.length < (k + 1) + m from ⟨hlt, HJ.out.2⟩)
        have HLN := Lib.hid (show xs.length ≤ 1000000 from by omega)
        clear HJ hc hlen
        have hx8 := HX.out
        generalize ((rot n Z).getD m zM).1 = y at *
        obtain ⟨A3, c3, rfl, hc3, hC3⟩ := Kd.R_reads HR.out
        clear hC3 hc3
        obtain ⟨r, hr⟩ : ∃ r, (n + m) % Z.length = r := ⟨_, rfl⟩
        rw [hr] at c0 hj
        have hkb := (hx8.lt : b < w.heap.size)
        have q1 : ∀ m : Q.GW wr.drew w.heap.size none, m.w.cell? ⟨b, 1, none⟩ = some (.slice (some ⟨g, 0, none⟩) Z.length c1) := fun m => (m.belowB (Nat.le_refl _) (fun _ h => by cases h)).cell (p := ⟨b, 1, none⟩) hkb |>.trans k1
        have q3 : ∀ m : Q.GW wr.drew w.heap.size none, m.w.cell? ⟨b, 3, none⟩ = some (.int .i64 n) := fun m => (m.belowB (Nat.le_refl _) (fun _ h => by cases h)).cell (p := ⟨b, 3, none⟩) hkb |>.trans k3
        have q0 : ∀ x : Q.GW wr.drew w.heap.size none, x.w.cell? ⟨g, r, none⟩ = some (.int .u64 y) := fun m => (m.belowB (Nat.le_refl _) (fun _ h => by cases h)).cell (p := ⟨g, r, none⟩) hgl |>.trans c0
        have s1 : IntKind.i64.wrap ((n : Int) + (m : Int)) = (n : Int) + (m : Int) := IntWalk.i64_in _ (by omega)
        have z0 : ((Z.length : Int) == 0) = false := beq_eq_false_iff_ne.2 (by omega)
        have z1 : (0 : Int) ≤ (n : Int) + (m : Int) := by omega
        have z2 : (1 : Int) ≤ (Z.length : Int) := by omega
        have z3 : ((n : Int) + (m : Int)) % (Z.length : Int) = (r : Int) := by rw [← hr]; simp
        have z4 : (r : Int) < (Z.length : Int) := by omega
        have z5 : (0 : Int) ≤ (r : Int) := by omega
        have HRR := Lib.hid hr
        clear hr hj hkb hgl hx8
        go_wp2_with fail
        refine Q.wp_region_segsB w.heap.size none [([0, 1, 2, 3, 4, 5, 6, 7, 8, 9, 10, 11, 12, 13, 14, 15, 16, 17, 18], some 19), ([], some 20), ([21], none)] (by kernel_rfl) (by kernel_rfl) (by kernel_rfl) (by kernel_rfl) ?_
        dsimp only [Q.wpSegs, Q.picks, Q.pick]
        repeat (go_big_quiet_step (fail))
        refine wpQuiet_nil ?_
        clear q0 q1 q3 s1 z0 z1 z2 z3 z4 z5 k1 k3 c0
        refine Q.ev_lit1 39 tU .u64 8 _ y rfl rfl rfl Try.underlying39 info_u64 rfl HB.out.size ?_
        refine wpQuiet_nil ?_
        refine Q.ev_app1 39 tU .u64 8 _ _ (.slice A3 xs.length c3) xs y wr.heap.size rfl rfl rfl Try.underlying39 info_u64 (by decide) rfl rfl (Kd.R_below HR.out (stay1 (stay0 wr) ((Below.refl _ _).alloc (Nat.le_refl _) _))) (heap_alloc_new wr.drew _) (Nat.le_trans HB.out.size (by simp)) (by have := HLN.out; omega) ?_
        intro v4 w4 hr4 hb4 _
        have HR4 := Lib.hid hr4
        have HB4 := Lib.hid ((HB.out.trans ((stay1 (stay0 wr) ((Below.refl _ _).alloc (Nat.le_refl _) _)).mono HB.out.size)).trans hb4)
        clear hr4 hb4
        go_simp
        repeat (go_big_quiet_step (fail))
        refine wpQuiet_nil ?_
        refine NoPanic.normal ?_
        go_wp2_with fail
        go_roundg k
        case measure => have := HJ'.out; omega
        case rel => exact ⟨m + 1, _, by go_num, Lib.hid (by have := HJ'.out; omega), HT, HR4, HB4⟩
      · have hm : m = Z.length := by have := HJ.out; omega
        go_wp2_with fail
        go_ret
        refine ⟨_, rfl, ?_, HB.out⟩
        have := HR.out
        rwa [HS.out, List.take_of_length_le (by rw [rot_length]; omega)] at this
end Go.Proofs.Ytbcononfgpfdbaa.D
