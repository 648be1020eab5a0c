/-
  aes: the document's Words.
-/
import Derived.Test.YtblnclooobggnaaAs
import Derived.Test.YtblnclooobggnaaAv
import Derived.Test.YtblnclooobggnaaAt
namespace Go.Proofs.Ytblnclooobggnaa.A
open Go.RowKit Go.Proofs.Ytblnclooobggnaa.L Go.Proofs.Ytblnclooobggnaa.N Go.Proofs.YtblnclooobggnaaW.PrintWords

abbrev tSI : TypeId := 34
abbrev tSS : TypeId := 39
theorem info_si : (Try.prog.info? tSI).map (fun i => (i.zero, i.size, i.bytes)) = some (some (.slice none 0 0), 1, 24) := by kernel_rfl
theorem gr_own {B : Nat} {W w1 : World} {v : Value} (hg : W.grownBy w1 v.ownBlock) (hv : ∀ k, v.ownBlock = some k → B ≤ k) (hB : B ≤ W.heap.size) : Q.Gr B none W w1 :=
  ⟨hg.os, hg.tape, hg.output, hg.size, fun k hk _ => hg.block k (by omega) (fun he => by have := hv k he.symm; omega)⟩
theorem ev_keepN {W w1 : World} {B : Nat} {row : Option Nat} {K : Nat → Option Nat → Act → World → Prop} {Q' : Exit → Act → World → Prop} {a : Act} (h : Below W.heap.size W w1) (hB : B ≤ W.heap.size) (k : ∀ w', w' = w1 → K B row a w') :
    Q.EvQ (Q.Gr B row W) (Q.Goes K B row) Q' .normal a w1 := Q.ev_keep h hB (k w1 rfl)
theorem gwB {W0 w : World} {n1 b o : Nat} {v : Value} (hb : b < n1) (h : W0.cell? ⟨b, o, none⟩ = some v) (hB : Below n1 W0 w) : ∀ m : Q.GW w.drew n1 none, m.w.cell? ⟨b, o, none⟩ = some v := fun m =>
  (World.cell?_of_block (w := W0) (a := ⟨b, o, none⟩) ((m.h.block b hb (by simp)).trans (hB.block b hb))).trans h
theorem PI.over {w w1 : World} {ps qs : List (Option Addr × Nat × Nat)} {L : List (List Nat)} {B : Nat} {v : Value} (h : PI w ps L) (hr : kSl.R tSI w B (fun _ => True) v qs) (hg : w.grownBy w1 v.ownBlock) : PI w1 ps L := by
  cases ho : v.ownBlock with
  | none =>
    rw [ho] at hg
    exact h.below ⟨hg.os, hg.tape, hg.output, hg.size, fun k hk => hg.block k hk (by simp)⟩
  | some b =>
    rw [ho] at hg
    obtain ⟨inner, hown⟩ := Kd.R_own hr
    obtain ⟨cells, hc⟩ := own_typed hown b ho
    exact h.ty hc (by decide) hg
/-- rows of ints, in memory, in a row of one's own -/
def RI (base : Nat) (v : Value) (L : List (List Nat)) (w : World) : Prop := ∃ ps, kSl.R tSI w base (fun _ => True) v ps ∧ PI w ps L
theorem RI.below {base : Nat} {v : Value} {L : List (List Nat)} {w w1 : World} (h : RI base v L w) (hb : Below w.heap.size w w1) : RI base v L w1 := by
  obtain ⟨ps, h1, h2⟩ := h
  exact ⟨ps, Kd.R_below h1 hb, h2.below hb⟩
theorem RI.nil (base : Nat) (w : World) : RI base (.slice none 0 0) [] w := ⟨[], Kd.R_nil _ _ _ _ _, PI.nil _⟩
/-- as it is read -/
def WD (W4 : List Nat) (n : Nat) (v : Value) (w : World) : Prop := ∃ b off c, v = .slice (some ⟨b, off, none⟩) n c ∧ b < w.heap.size ∧ Ty w tSI (some ⟨b, off, none⟩) ∧ ∀ j, j < n → ∃ b2 o2 c2, b2 < w.heap.size ∧ Ty w tI (some ⟨b2, o2, none⟩) ∧ w.cell? ⟨b, off + j, none⟩ = some (.slice (some ⟨b2, o2, none⟩) 4 c2) ∧ ∀ k, k < 4 → w.cell? ⟨b2, o2 + k, none⟩ = some (.int .i64 (W4.getD (4 * j + k) 0 : Nat))
theorem WD.below {W4 : List Nat} {n : Nat} {v : Value} {w w1 : World} (h : WD W4 n v w) (hb : Below w.heap.size w w1) : WD W4 n v w1 := by
  obtain ⟨b, off, c, e, hlt, ht, h⟩ := h
  refine ⟨b, off, c, e, Nat.lt_of_lt_of_le hlt hb.size, ht.below hb, fun j hj => ?_⟩
  obtain ⟨b2, o2, c2, h2, ht2, h3, h4⟩ := h j hj
  exact ⟨b2, o2, c2, Nat.lt_of_lt_of_le h2 hb.size, ht2.below hb, (hb.cell (p := ⟨b, off + j, none⟩) hlt).trans h3, fun k hk => (hb.cell (p := ⟨b2, o2 + k, none⟩) h2).trans (h4 k hk)⟩
theorem WD.ty {W4 : List Nat} {n : Nat} {v : Value} {w w1 : World} (h : WD W4 n v w) {g : Nat} {t : TypeId} {cs : Array Value} {fr : Nat × Nat} (hg : w.heap[g]? = some (.cells cs t fr)) (n1 : tSI ≠ t) (n2 : tI ≠ t) (hgr : w.grownBy w1 (some g)) : WD W4 n v w1 := by
  obtain ⟨b, off, c, e, hlt, ht, h⟩ := h
  have k1 := grown_keep hgr ht hg n1 _ rfl
  refine ⟨b, off, c, e, Nat.lt_of_lt_of_le hlt hgr.size, ht.move (grown_keep hgr ht hg n1), fun j hj => ?_⟩
  obtain ⟨b2, o2, c2, h2, ht2, h3, h4⟩ := h j hj
  have k2 := grown_keep hgr ht2 hg n2 _ rfl
  exact ⟨b2, o2, c2, Nat.lt_of_lt_of_le h2 hgr.size, ht2.move (grown_keep hgr ht2 hg n2), (World.cell?_of_block (w := w) (a := ⟨b, off + j, none⟩) k1).trans h3, fun k hk => (World.cell?_of_block (w := w) (a := ⟨b2, o2 + k, none⟩) k2).trans (h4 k hk)⟩
theorem RI.read {base n : Nat} {v : Value} {L : List (List Nat)} {w : World} {key : List Nat} (h : RI base v L w) (hw : WR key n L) (hk : key.length = 16) : WD (WS key n) (n + 4) v w := by
  obtain ⟨ps, h1, h2⟩ := h
  obtain ⟨A, c, rfl, hc, hC⟩ := Kd.R_reads h1
  have hTy : Ty w tSI A := by
    obtain ⟨inner, hown⟩ := Kd.R_own h1
    exact Ty_own hown
  have hl := hw.count hk
  have hpl : ps.length = n + 4 := h2.1.trans hl
  rw [hpl] at hC ⊢
  obtain ⟨ad, e, hcell⟩ := hC.2.2 (by omega)
  subst e
  obtain ⟨b, off, spot⟩ := ad
  have hget : ∀ j, j < n + 4 → w.cell? ((⟨b, off, spot⟩ : Addr).add j) = some (.slice (ps.getD j (none, 0, 0)).1 (ps.getD j (none, 0, 0)).2.1 (ps.getD j (none, 0, 0)).2.2) := fun j hj => by
    obtain ⟨cs, _, hk1, hk2⟩ := hcell j (ps.getD j (none, 0, 0)) (by rw [List.getD_eq_getElem?_getD, List.getElem?_eq_getElem (show j < ps.length by omega)]; rfl)
    have := hk2 0 (.slice (ps.getD j (none, 0, 0)).1 (ps.getD j (none, 0, 0)).2.1 (ps.getD j (none, 0, 0)).2.2) (by rw [show cs = [_] from hk1]; rfl)
    simpa [show kSl.sz = 1 from rfl] using this
  have hs : spot = none := by
    have := World.cell?_spot (hget 0 (by omega))
    simpa [Addr.add] using this
  subst hs
  have hg0 := hget 0 (by omega)
  rw [add_at] at hg0
  refine ⟨b, off, c, rfl, World.block_lt_of_cell? w _ hg0, hTy, fun j hj => ?_⟩
  have hgj := hget j hj
  rw [add_at] at hgj
  obtain ⟨q1, q2, _, _, q5⟩ := h2.2 j (by omega)
  have h4 : (L.getD j []).length = 4 := hw.four _ (by rw [List.getD_eq_getElem?_getD, List.getElem?_eq_getElem (show j < L.length by omega)]; exact List.getElem_mem _)
  rw [q1, h4] at hgj
  rw [h4, ← h4] at q2
  obtain ⟨b2, o2, e2, hb2, hc2⟩ := B_at q2 (by omega)
  rw [e2] at hgj q5
  refine ⟨b2, o2, _, hb2, q5, hgj, fun k hk4 => ?_⟩
  rw [hc2 k (by omega), hw.get hk hj hk4]
/-- one row more -/
theorem RI.snoc {base : Nat} {v : Value} {L : List (List Nat)} {w : World} (h : RI base v L w) : ∃ ps, kSl.R tSI w base (fun _ => True) v ps ∧ PI w ps L ∧ ps.length = L.length := by
  obtain ⟨ps, h1, h2⟩ := h
  exact ⟨ps, h1, h2, h2.1⟩
def row4 (key : List Nat) (i : Nat) : List Nat := [key.getD (4 * i) 0, key.getD (4 * i + 1) 0, key.getD (4 * i + 2) 0, key.getD (4 * i + 3) 0]
def rows4 (key : List Nat) (n : Nat) : List (List Nat) := (List.range n).map (row4 key)
theorem rows4_succ (key : List Nat) (n : Nat) : rows4 key (n + 1) = rows4 key n ++ [row4 key n] := by simp [rows4, List.range_succ]
theorem rows4_len (key : List Nat) (n : Nat) : (rows4 key n).length = n := by simp [rows4]
theorem row4_lt {key : List Nat} (h : ∀ x ∈ key, x < 256) (i : Nat) : ∀ x ∈ row4 key i, x < 256 := fun x hx => by
  have g : ∀ j, key.getD j 0 < 256 := fun j => getD_lt0 (by decide) j h
  simp only [row4, List.mem_cons, List.not_mem_nil, or_false] at hx
  rcases hx with e | e | e | e <;> rw [e] <;> exact g _
theorem rows4_WR {key : List Nat} (h : key.length = 16) : WR key 0 (rows4 key 4) := by
  refine ⟨fun r hr => ?_, ?_⟩
  · obtain ⟨i, _, rfl⟩ := List.mem_map.1 hr
    rfl
  · rw [WS]
    refine List.ext_getElem (by rw [h]; rfl) (fun j h1 h2 => ?_)
    have e : (rows4 key 4).flatten = (List.range 16).map (fun j => key.getD j 0) := rfl
    simp [e, List.getD_eq_getElem?_getD, List.getElem?_eq_getElem h2]
theorem getD_i (l : List Nat) (i : Nat) (h : ∀ x ∈ l, x < 256) : (l.getD i 0 : Int) < 256 := by
  have := getD_lt0 (by decide) i h
  omega
/-- what an array in memory holds, as a row -/
theorem ab_row {k : IntKind} {t : TypeId} {b : Nat} {l : List Nat} {w : World} (h : AB k t b l w) (hl : l.length ≤ maxLen) : (Kd.int k).C w (some ⟨b, 0, none⟩) l.length (nat l) := by
  have h1 := R_of_blk (w := w) (b := b) (B := 0) (k := k) (e := t) (l := nat l) (by
    rw [show (List.map (Value.int k) (nat l)).toArray = arr k l from by simp [arr, nat]]
    exact h) (Nat.zero_le _) (by rw [nat_length]; exact hl)
  have := (Kd.R_reads' h1).2.2
  rwa [nat_length] at this
theorem ab_ty {k : IntKind} {t : TypeId} {b : Nat} {l : List Nat} {w : World} (h : AB k t b l w) : Ty w t (some ⟨b, 0, none⟩) := fun ad ha => by
  injection ha with ha
  subst ha
  exact ⟨_, _, h⟩
theorem tmpW_plain (W : List Nat) {n k : Nat} (hm : ¬ n % 4 = 0) (hk : k < 4) : (tmpW W (n + 4)).getD k 0 = W.getD (4 * (n + 3) + k) 0 := by
  unfold tmpW
  rw [if_neg (by omega), show n + 4 - 1 = n + 3 from by omega]
  rcases (show k = 0 ∨ k = 1 ∨ k = 2 ∨ k = 3 from by omega) with h | h | h | h <;> subst h <;> rfl
theorem lit_i {W w : World} {y : Int} {e : TypeId} (h : W = w.alloc (.cells #[.int .i64 y] e)) : (Kd.int .i64).C W (some ⟨w.heap.size, 0, none⟩) 1 [y] := by
  have hg : W.heap[w.heap.size]? = some (.cells #[.int .i64 y] e (0, 0)) := h ▸ heap_alloc_new w _
  have hR := R_of_blk (k := .i64) (l := [y]) (B := 0) (by simpa using hg) (Nat.zero_le _) (show 1 ≤ maxLen from by decide)
  exact (Kd.R_reads' hR).2.2
theorem lit_s {W w : World} {A : Option Addr} {n c : Nat} {e : TypeId} (h : W = w.alloc (.cells #[.slice A n c] e)) : kSl.C W (some ⟨w.heap.size, 0, none⟩) 1 [(A, n, c)] := by
  have hg : W.heap[w.heap.size]? = some (.cells #[.slice A n c] e (0, 0)) := h ▸ heap_alloc_new w _
  have hR : kSl.R e W 0 (fun _ => True) (.slice (some ⟨w.heap.size, 0, none⟩) 1 1) [(A, n, c)] := Kd.R_of_own (enc := fun p : Option Addr × Nat × Nat => Value.slice p.1 p.2.1 p.2.2) ⟨by simp [encs], .inr ⟨w.heap.size, 1, _, rfl, Nat.zero_le _, hg, Nat.le_refl _, by decide, by simp, by simp [encs]⟩⟩ (fun _ _ => trivial)
  exact (Kd.R_reads' hR).2.2
set_option maxRecDepth 100000 in
set_option maxHeartbeats 6400000 in
theorem refwords_any (key : List Nat) (A A2 : Option Addr) (c c2 : Nat) (w : World) (hC : (Kd.int .u8).C w A 16 (nat key)) (hk : key.length = 16) (hk8 : ∀ x ∈ key, x < 256) (hC2 : (Kd.int .i64).C w A2 256 (nat boxT)) :
    Calls Try.prog 20 #[.slice A 16 c, .slice A2 256 c2] w fun e w' => ∃ v, e = .returned v ∧ WD (WK key) 44 v w' ∧ Below w.heap.size w w' := by
  have HK := Lib.hid (show key.length = 16 ∧ ∀ x ∈ key, x < 256 from ⟨hk, hk8⟩)
  rw [← hk] at hC
  obtain ⟨b1, o1, rfl, hb1, hc1⟩ := B_at hC (by omega)
  rw [← boxT_len] at hC2
  obtain ⟨b2, o2, rfl, hb2, hc2⟩ := B_at hC2 (by rw [boxT_len]; decide)
  rw [boxT_len] at hc2
  have HC1 := Lib.hid hc1
  have HC2 := Lib.hid hc2
  have HLt := Lib.hid (show b1 < w.heap.size ∧ b2 < w.heap.size from ⟨hb1, hb2⟩)
  clear hC hC2 hc1 hc2 hb1 hb2 hk hk8
  go_enter Try.func20, Try.ntmps20
  go_wp2_with fail
  go_loopg [5, 6] 6 (fun g v5 v6 w' => ∃ i : Nat, v6 = .int .i64 (i : Int) ∧ Hid (i ≤ 4 ∧ 4 < g + i) ∧ Hid (RI w.heap.size v5 (rows4 key i) w') ∧ Hid (Below w.heap.size w w'))
  case atStart => exact ⟨0, rfl, Lib.hid ⟨by omega, by omega⟩, Lib.hid (RI.nil _ _), Lib.hid (Below.refl _ _)⟩
  case round =>
    obtain ⟨i, rfl, HJ, HR, HB⟩ := hrel
    cases gk with
    | zero => have := HJ.out; omega
    | succ g1 =>
      by_cases hi : i < 4
      · have HJ' := Lib.hid (show i < 4 ∧ 4 < (g1 + 1) + i from ⟨hi, HJ.out.2⟩)
        have z0 : (i : Int) < 4 := by omega
        have z1 : (0 : Int) ≤ (i : Int) := by omega
        have z2 : 4 * (i : Int) + 3 < 16 := by omega
        have z3 : (4 * (i : Int)).toNat = 4 * i := by omega
        have z4 : (4 * (i : Int) + 1).toNat = 4 * i + 1 := by omega
        have z5 : (4 * (i : Int) + 2).toNat = 4 * i + 2 := by omega
        have z6 : (4 * (i : Int) + 3).toNat = 4 * i + 3 := by omega
        have e0 : 4 * (i : Int) < 16 := by omega
        have e1 : 4 * (i : Int) + 1 < 16 := by omega
        have e2 : 4 * (i : Int) + 2 < 16 := by omega
        have f0 : (0 : Int) ≤ 4 * (i : Int) := by omega
        have f1 : (0 : Int) ≤ 4 * (i : Int) + 1 := by omega
        have f2 : (0 : Int) ≤ 4 * (i : Int) + 2 := by omega
        have f3 : (0 : Int) ≤ 4 * (i : Int) + 3 := by omega
        have q0 := gwB HLt.out.1 (HC1.out (4 * i) (by have := HK.out.1; omega)) HB.out
        have q1 := gwB HLt.out.1 (HC1.out (4 * i + 1) (by have := HK.out.1; omega)) HB.out
        have q2 := gwB HLt.out.1 (HC1.out (4 * i + 2) (by have := HK.out.1; omega)) HB.out
        have q3 := gwB HLt.out.1 (HC1.out (4 * i + 3) (by have := HK.out.1; omega)) HB.out
        have p0 := getD_i key (4 * i) HK.out.2
        have p1 := getD_i key (4 * i + 1) HK.out.2
        have p2 := getD_i key (4 * i + 2) HK.out.2
        have p3 := getD_i key (4 * i + 3) HK.out.2
        have HG := Lib.hid (show row4 key i = [key.getD (4 * i) 0, key.getD (4 * i + 1) 0, key.getD (4 * i + 2) 0, key.getD (4 * i + 3) 0] from rfl)
        generalize key.getD (4 * i) 0 = k0 at *
        generalize key.getD (4 * i + 1) 0 = k1 at *
        generalize key.getD (4 * i + 2) 0 = k2 at *
        generalize key.getD (4 * i + 3) 0 = k3 at *
        clear hi HJ
        go_wp2_with fail
        refine Q.wp_region_segsB w.heap.size none [([0, 1, 2, 3, 4, 5, 6, 7, 8, 9, 10, 11, 12, 13, 14, 15, 16, 17, 18, 19, 20, 21, 22, 23, 24, 25, 26, 27], some 28), ([], some 29), ([], some 30), ([31], none)] (by kernel_rfl) (by kernel_rfl) (by kernel_rfl) (by kernel_rfl) ?_
        dsimp only [Q.wpSegs, Q.picks, Q.pick]
        repeat (go_big_quiet_step (fail))
        refine wpQuiet_nil ?_
        clear q0 q1 q2 q3
        go_wp2_with fail
        refine ev_keepN ((Below.refl _ _).alloc (Nat.le_refl _) _) HB.out.size fun W1 hW1 => ?_
        have HR1 := Lib.hid ((HR.out.below (stay0 wr)).below (show Below wr.drew.heap.size wr.drew W1 from by rw [hW1]; exact (Below.refl _ _).alloc (Nat.le_refl _) _))
        have HA1 := Lib.hid (show AB .i64 tI wr.heap.size (row4 key i) W1 from by rw [hW1, HG.out]; exact AB.mk wr.drew .i64 tI [k0, k1, k2, k3])
        have HB1 := Lib.hid (show Below w.heap.size w W1 from by rw [hW1]; exact HB.out.drew.alloc HB.out.size _)
        clear hW1
        first | refine wpQuiet_nil ?_ | skip
        go_wp2_with fail
        refine ev_keepN ((Below.refl _ _).alloc (Nat.le_refl _) _) HB1.out.size fun W2 hW2 => ?_
        have HLs := Lib.hid (lit_s hW2)
        have hbw : Below W1.heap.size W1 W2 := by rw [hW2]; exact (Below.refl _ _).alloc (Nat.le_refl _) _
        obtain ⟨ps, hp1, hp2, hp3⟩ := (HR1.out.below hbw).snoc
        have HP1 := Lib.hid hp1
        have HP2 := Lib.hid hp2
        have HPl := Lib.hid (show ps.length = i from by rw [hp3]; exact rows4_len _ _)
        have HB2 := Lib.hid (HB1.out.trans (hbw.mono HB1.out.size))
        have HA2 := Lib.hid (HA1.out.below HA1.out.lt hbw)
        clear hp1 hp2 hp3 hbw hW2
        first | refine wpQuiet_nil ?_ | skip
        go_wp2_with (at_builtin; refine Kd.R_append_row (fun p : Option Addr × Nat × Nat => Value.slice p.1 p.2.1 p.2.2) (none, 0, 0) (w0 := w) w.heap.size rfl (.tmp 16) (.tmp 45) tSS tSI (.slice none 0 0) 24 rfl Try.underlying39 info_si rfl (by decide) u5 ps [(some ⟨wr.heap.size, 0, none⟩, 4, 4)] _ 1 1 (fun _ => True) rfl rfl (fun _ _ => trivial) HP1.out HLs.out HB2.out HB2.out.size (by have := HPl.out; have := HJ'.out; omega) ?_; intro v8 w8 hr8 hb8 hg8 _; (have HR8 := Lib.hid hr8); (have HB8 := Lib.hid hb8); (have HG8 := Lib.hid hg8); clear hr8 hb8 hg8)
        refine Q.ev_app (gr_own HG8.out (fun k hk => Kd.R_base HP1.out k hk) HB2.out.size) (Nat.le_refl _) (Q.NewRow.self _ _) ?_
        repeat (go_big_quiet_step (fail))
        refine wpQuiet_nil ?_
        refine NoPanic.normal ?_
        have HP8 := Lib.hid (show RI w.heap.size v8 (rows4 key (i + 1)) w8 from by
          rw [rows4_succ]
          have h := (HP2.out.snoc (A := some ⟨wr.heap.size, 0, none⟩) (c := 4) (l := row4 key i) (ab_row HA2.out (by show 4 ≤ maxLen; decide)) (row4_lt HK.out.2 i) (Nat.le_refl _) (ab_ty HA2.out)).over HP1.out HG8.out
          exact ⟨_, HR8.out, h⟩)
        go_wp2_with fail
        go_roundg g1
        case measure => have := HJ'.out; omega
        case rel => exact ⟨i + 1, by go_num, Lib.hid (by have := HJ'.out; omega), HP8, HB8⟩
      · obtain rfl : i = 4 := by have := HJ.out; omega
        clear hi HJ
        have HR0 := HR
        have HW0 := Lib.hid (rows4_WR HK.out.1)
        clear HR
        go_wp2_with fail
        go_loopg [5, 7, 8] 42 (fun g v5 v7 v8 w' => ∃ (n : Nat) (L : List (List Nat)), v7 = .int .i64 (pw ((n + 3) / 4) : Nat) ∧ v8 = .int .i64 ((n : Int) + 4) ∧ Hid (n ≤ 40 ∧ 40 < g + n) ∧ Hid (RI w.heap.size v5 L w') ∧ Hid (WR key n L) ∧ Hid (Below w.heap.size w w'))
        case atStart => exact ⟨0, rows4 key 4, rfl, rfl, Lib.hid ⟨by omega, by omega⟩, HR0, HW0, HB⟩
        case round =>
          obtain ⟨n, L, rfl, rfl, HJ, HR, HWR, HBn⟩ := hrel
          clear HR0 HB HW0
          cases gk with
          | zero => have := HJ.out; omega
          | succ g1 =>
            by_cases hn : n < 40
            · have HJ' := Lib.hid (show n < 40 ∧ 40 < (g1 + 1) + n from ⟨hn, HJ.out.2⟩)
              obtain ⟨b5, o5, c5, hv5, hb5, _, hat5⟩ := HR.out.read HWR.out HK.out.1
              obtain ⟨b3, o3, c3, hb3, _, hce3, hk3⟩ := hat5 (n + 3) (by omega)
              obtain ⟨b4, o4, c4, hb4, _, hce4, hk4⟩ := hat5 n (by omega)
              have HC4w := Lib.hid hk4
              have HCE4w := Lib.hid hce4
              have HN4w := Lib.hid (show b4 < wr.heap.size ∧ b5 < wr.heap.size from ⟨hb4, hb5⟩)
              subst hv5
              have HC3 := Lib.hid hk3
              have HN3 := Lib.hid hb3
              obtain ⟨lw, hlw⟩ : ∃ y, n + 4 = y := ⟨_, rfl⟩
              rw [hlw] at HR ⊢
              have x0 : (n : Int) + 3 < (lw : Int) := by omega
              have x1 : (0 : Int) ≤ (n : Int) + 3 := by omega
              have x2 : ((n : Int) + 3).toNat = n + 3 := by omega
              have x3 : (n : Int) + 4 < 44 := by omega
              have x4 : (0 : Int) ≤ (n : Int) := by omega
              have x5 : ¬ (n : Int) < 0 := by omega
              have Hlw := Lib.hid hlw
              clear hk3 hb3 hb5 hat5 hk4 hb4 hce4 hn HJ hlw
              obtain ⟨pp, hpp⟩ : ∃ y, pw ((n + 3) / 4) = y := ⟨_, rfl⟩
              rw [hpp]
              by_cases hm : n % 4 = 0
              · have m1 : (n : Int) % 4 = 0 := by omega
                have m2 : ((n : Int) + 4) % 4 = 0 := by omega
                have m3 : ((n : Int) + 4).tmod 4 = 0 := by rw [Int.tmod_eq_emod_of_nonneg (by omega)]; omega
                have p8 : pp < 256 := by rw [← hpp]; exact pw_lt _
                have HPP := Lib.hid (show pw (((n + 1) + 3) / 4) = rmul pp 2 from by rw [rmul_two _ p8, ← hpp, show ((n + 1) + 3) / 4 = (n + 3) / 4 + 1 from by omega, pw])
                have Hpp := Lib.hid hpp
                have HMu := Lib.hid (fun W => mul_any pp 2 W p8 (by decide))
                have g8 : ∀ j, (WS key n).getD j 0 < 256 := fun j => getD_lt0 (by decide) j (WS_lt HK.out.2 n)
                have G8 := Lib.hid g8
                have q0 := gw HN3.out (HC3.out 0 (by decide))
                have q1 := gw HN3.out (HC3.out 1 (by decide))
                have q2 := gw HN3.out (HC3.out 2 (by decide))
                have q3 := gw HN3.out (HC3.out 3 (by decide))
                obtain ⟨l0, hl0⟩ : ∃ y, (WS key n).getD (4 * (n + 3)) 0 = y := ⟨_, rfl⟩
                obtain ⟨l1, hl1⟩ : ∃ y, (WS key n).getD (4 * (n + 3) + 1) 0 = y := ⟨_, rfl⟩
                obtain ⟨l2, hl2⟩ : ∃ y, (WS key n).getD (4 * (n + 3) + 2) 0 = y := ⟨_, rfl⟩
                obtain ⟨l3, hl3⟩ : ∃ y, (WS key n).getD (4 * (n + 3) + 3) 0 = y := ⟨_, rfl⟩
                have HT := Lib.hid (show tmpW (WS key n) (n + 4) = [bxv l1 ^^^ pp, bxv l2, bxv l3, bxv l0] from by
                  unfold tmpW
                  rw [if_pos (by omega), show n + 4 - 1 = n + 3 from by omega, hl0, hl1, hl2, hl3, hpp])
                have t0 : (l0 : Int) < 256 := by have := G8.out (4 * (n + 3)); omega
                have t1 : (l1 : Int) < 256 := by have := G8.out (4 * (n + 3) + 1); omega
                have t2 : (l2 : Int) < 256 := by have := G8.out (4 * (n + 3) + 2); omega
                have t3 : (l3 : Int) < 256 := by have := G8.out (4 * (n + 3) + 3); omega
                rw [Nat.add_zero, Nat.add_zero, hl0] at q0
                rw [hl1] at q1
                rw [hl2] at q2
                rw [hl3] at q3
                have hbx := fun j (hj : j < 256) => gw (w := wr) (Nat.lt_of_lt_of_le HLt.out.2 HBn.out.size) ((HBn.out.cell (p := ⟨b2, o2 + j, none⟩) HLt.out.2).trans (HC2.out j hj))
                have r0 := hbx l0 (by omega)
                have r1 := hbx l1 (by omega)
                have r2 := hbx l2 (by omega)
                have r3 := hbx l3 (by omega)
                have xx := xor_i64 (bxv l1) pp (by have := bxv_lt l1; omega) (by omega)
                rw [show boxT.getD l0 0 = bxv l0 from rfl] at r0
                rw [show boxT.getD l1 0 = bxv l1 from rfl] at r1
                rw [show boxT.getD l2 0 = bxv l2 from rfl] at r2
                rw [show boxT.getD l3 0 = bxv l3 from rfl] at r3
                generalize bxv l0 = d0 at *
                generalize bxv l1 = d1 at *
                generalize bxv l2 = d2 at *
                generalize bxv l3 = d3 at *
                have HXx := Lib.hid xx
                have y0 : (0 : Int) ≤ (pp : Int) := by omega
                have y1 : (pp : Int) < 256 := by omega
                clear hl0 hl1 hl2 hl3 hbx g8 hpp hm p8
                generalize d1 ^^^ pp = dx at *
                go_wp2_with fail
                refine Q.wp_region_segs none [([0, 1, 2, 3, 4, 5, 6, 7, 8, 9, 10, 11, 12, 13, 14, 15, 16, 17, 18, 19, 20, 21, 22, 23, 24, 25], some 26), ([27], none)] (by kernel_rfl) (by kernel_rfl) (by kernel_rfl) (by kernel_rfl) ?_
                dsimp only [Q.wpSegs, Q.picks, Q.pick]
                repeat (go_big_quiet_step (fail))
                refine wpQuiet_nil ?_
                clear q0 q1 q2 q3 r0 r1 r2 r3
                go_wp2_with fail
                refine Q.ev_keep ((Below.refl _ _).alloc (Nat.le_refl _) _) (Nat.le_refl _) ?_
                repeat (go_big_quiet_step (fail))
                refine wpQuiet_nil ?_
                refine NoPanic.normal ?_
                refine exit_at fun Wb hWb => ?_
                have HA1 := Lib.hid (show AB .i64 tI wr.heap.size (tmpW (WS key n) (n + 4)) Wb from by rw [hWb, HT.out]; exact AB.mk wr.drew .i64 tI [dx, d2, d3, d0])
                have HWB := Lib.hid (show Below wr.heap.size wr Wb from by rw [hWb]; exact (stay0 wr).alloc (Nat.le_refl _) _)
                have HBb := Lib.hid (HBn.out.trans (HWB.out.mono HBn.out.size))
                have HRb := Lib.hid (HR.out.below HWB.out)
                have HLb := Lib.hid HA1.out.lt
                have HLc := Lib.hid (fun k (hk : k < 4) => (show Wb.cell? ⟨wr.heap.size, 0 + k, none⟩ = some (.int .i64 ((tmpW (WS key n) (n + 4)).getD k 0 : Nat)) from by rw [Nat.zero_add]; exact HA1.out.cell (by rw [HT.out]; exact hk)))
                clear hWb
                go_wp2_with (go_at_call 36; refine (HMu.out _).mono ?_; rintro e w7 ⟨rfl, hw7⟩; (rw [hw7]); clear hw7 w7)
                have HC4 := Lib.hid (fun k (hk : k < 4) => (HWB.out.cell (p := ⟨b4, o4 + k, none⟩) HN4w.out.1).trans (HC4w.out k hk))
                have HCE4 := Lib.hid ((HWB.out.cell (p := ⟨b5, o5 + n, none⟩) HN4w.out.2).trans HCE4w.out)
                have HN4 := Lib.hid (show b4 < Wb.heap.size ∧ b5 < Wb.heap.size from ⟨Nat.lt_of_lt_of_le HN4w.out.1 HWB.out.size, Nat.lt_of_lt_of_le HN4w.out.2 HWB.out.size⟩)
                have x6 : (n : Int) < (lw : Int) := by have := Hlw.out; omega
                obtain ⟨n1, hn1⟩ : ∃ y, Wb.heap.size = y := ⟨_, rfl⟩
                have Hn1 := Lib.hid hn1
                clear hn1
                go_wp2_with fail
                go_loopg [10, 11] 6 (fun g v10 v11 w' => ∃ k : Nat, v11 = .int .i64 (k : Int) ∧ Hid (k ≤ 4 ∧ 4 < g + k) ∧ Hid ((Kd.int .i64).R tI w' n1 (fun _ => True) v10 (nat ((nxtW (WS key n) (n + 4)).take k))) ∧ Hid (Below n1 Wb w'))
                case atStart => exact ⟨0, rfl, Lib.hid ⟨by omega, by omega⟩, Lib.hid (Kd.R_nil _ _ _ _ _), Lib.hid (Below.refl _ _)⟩
                case round =>
                  obtain ⟨k, rfl, HI, HR10, HBk⟩ := hrel
                  cases gk with
                  | zero => have := HI.out; omega
                  | succ g2 =>
                    by_cases hk : k < 4
                    · have HI' := Lib.hid (show k < 4 ∧ 4 < (g2 + 1) + k from ⟨hk, HI.out.2⟩)
                      have y0 : (k : Int) < 4 := by omega
                      have y1 : (0 : Int) ≤ (k : Int) := by omega
                      have q1 := gwB (by rw [← Hn1.out]; exact HN4.out.2) HCE4.out HBk.out
                      obtain ⟨va, hva⟩ : ∃ y, (WS key n).getD (4 * n + k) 0 = y := ⟨_, rfl⟩
                      obtain ⟨vb, hvb⟩ : ∃ y, (tmpW (WS key n) (n + 4)).getD k 0 = y := ⟨_, rfl⟩
                      have q2 := gwB (by rw [← Hn1.out]; exact HN4.out.1) (HC4.out k hk) HBk.out
                      have q3 := gwB (by rw [← Hn1.out]; exact HLb.out) (HLc.out k hk) HBk.out
                      have a8 : va < 256 := by rw [← hva]; exact getD_lt0 (by decide) _ (WS_lt HK.out.2 n)
                      have b8 : vb < 256 := by rw [← hvb]; exact getD_lt0 (by decide) _ (tmpW_lt (WS_lt HK.out.2 n) _)
                      rw [hva] at q2
                      rw [hvb] at q3
                      try simp only [Nat.zero_add] at q3
                      have x1 := xor_i64 va vb (by omega) (by omega)
                      have hS := nat_snoc (l := nxtW (WS key n) (n + 4)) (j := k) (by rw [nxtW_len]; exact hk)
                      have hG : (nxtW (WS key n) (n + 4)).getD k 0 = va ^^^ vb := by rw [← hva, ← hvb]; exact nxtW_get _ n hk
                      rw [hG] at hS
                      have HS := Lib.hid hS
                      have HL := Lib.hid (show (nat ((nxtW (WS key n) (n + 4)).take k)).length = k from by rw [nat_length, List.length_take, nxtW_len]; omega)
                      have HB1 := Lib.hid (show n1 ≤ wr.heap.size from by have := HBk.out.size; have := Hn1.out; omega)
                      clear hva hvb a8 b8 hS hG hk HI
                      generalize va ^^^ vb = vx at *
                      generalize nat ((nxtW (WS key n) (n + 4)).take k) = xs at *
                      go_wp2_with fail
                      refine Q.wp_region_segsB n1 none [([0, 1, 2, 3, 4, 5, 6, 7, 8, 9, 10, 11, 12, 13], some 14), ([], some 15), ([16], none)] (by kernel_rfl) (by kernel_rfl) (by kernel_rfl) (by kernel_rfl) ?_
                      dsimp only [Q.wpSegs, Q.picks, Q.pick]
                      repeat (go_big_quiet_step (fail))
                      refine wpQuiet_nil ?_
                      clear q1 q2 q3
                      go_wp2_with fail
                      refine ev_keepN ((Below.refl _ _).alloc (Nat.le_refl _) _) HB1.out fun W2 hW2 => ?_
                      have HLi := Lib.hid (lit_i (w := wr.drew) hW2)
                      have hbw : Below wr.heap.size wr W2 := by rw [hW2]; exact (stay0 wr).alloc (Nat.le_refl _) _
                      have HR10d := Lib.hid (Kd.R_below HR10.out hbw)
                      have HBkd := Lib.hid (HBk.out.trans (hbw.mono HB1.out))
                      have HB2 := Lib.hid (show n1 ≤ W2.heap.size from Nat.le_trans HB1.out hbw.size)
                      clear hW2 hbw
                      first | refine wpQuiet_nil ?_ | skip
                      go_wp2_with (at_builtin; refine appn (w0 := Wb) .i64 n1 (.tmp 92) (.tmp 106) tSI tI 8 rfl rfl Try.underlying34 info_i (by decide) u10 xs [(vx : Int)] _ 1 1 rfl rfl HR10d.out HLi.out HBkd.out HB2.out (by have := HL.out; have := HI'.out; omega) ?_; intro v8 w8 hr8 hb8 hg8; (have HR8 := Lib.hid hr8); (have HB8 := Lib.hid hb8); (have HG8 := Lib.hid hg8); clear hr8 hb8 hg8)
                      refine Q.ev_app (gr_own HG8.out (fun k hk => Kd.R_base HR10d.out k hk) HB2.out) (Nat.le_refl _) (Q.NewRow.self _ _) ?_
                      repeat (go_big_quiet_step (fail))
                      refine wpQuiet_nil ?_
                      refine NoPanic.normal ?_
                      go_wp2_with fail
                      go_roundg g2
                      case measure => have := HI'.out; omega
                      case rel => exact ⟨k + 1, by go_num, Lib.hid (by have := HI'.out; omega), Lib.hid (by rw [← HS.out]; exact HR8.out), HB8⟩
                    · obtain rfl : k = 4 := by have := HI.out; omega
                      clear hk HI
                      have hr := HR10.out
                      rw [List.take_of_length_le (by rw [nxtW_len]; exact Nat.le_refl _)] at hr
                      obtain ⟨A10, c10, hv10, hc10, hC10⟩ := Kd.R_reads hr
                      rw [nat_length, nxtW_len] at hv10 hc10 hC10
                      have hT10 := Ty_R (A := A10) (by rw [← hv10]; exact hr)
                      have HC10 := Lib.hid (show (Kd.int .i64).C wr A10 (nxtW (WS key n) (n + 4)).length (nat (nxtW (WS key n) (n + 4))) from by rw [nxtW_len]; exact hC10)
                      have HT10 := Lib.hid hT10
                      have Hc10 := Lib.hid hc10
                      have HWb := Lib.hid (show Below Wb.heap.size Wb wr from by rw [Hn1.out]; exact HBk.out)
                      have HRr := Lib.hid (HRb.out.below HWb.out)
                      have HBr := Lib.hid (HBb.out.trans (HWb.out.mono HBb.out.size))
                      subst hv10
                      clear hr hC10 hT10 hc10
                      obtain ⟨ps, hp1, hp2, hp3⟩ := HRr.out.snoc
                      have HP1 := Lib.hid hp1
                      have HP2 := Lib.hid hp2
                      have HPl := Lib.hid (show ps.length = n + 4 from by rw [hp3]; exact HWR.out.count HK.out.1)
                      clear hp1 hp2 hp3
                      go_wp2_with (at_builtin; refine Kd.R_append kSl (w0 := w) w.heap.size rfl (.tmp 108) (.tmp 110) tSS tSI (.slice none 0 0) 24 rfl Try.underlying39 info_si rfl (by decide) (by decide) _ ps (A10, 4, c10) [.slice A10 4 c10] (fun _ => True) (fun _ => False) rfl rfl rfl (fun _ h => h.elim) (fun _ _ => trivial) HP1.out HBr.out HBr.out.size (by have := HPl.out; have := HJ'.out; omega) ?_; intro v8 w8 hr8 hb8 hg8 _; (have HR8 := Lib.hid hr8); (have HB8 := Lib.hid hb8); (have HG8 := Lib.hid hg8); clear hr8 hb8 hg8)
                      have HP8 := Lib.hid (show RI w.heap.size v8 (L ++ [nxtW (WS key n) (n + 4)]) w8 from by
                        have h := (HP2.out.snoc HC10.out (nxtW_lt (WS_lt HK.out.2 n) _) (by rw [nxtW_len]; exact Hc10.out) HT10.out).over HP1.out HG8.out
                        rw [nxtW_len] at h
                        exact ⟨_, HR8.out, h⟩)
                      go_roundg g1
                      case measure => have := HJ'.out; omega
                      case rel => exact ⟨n + 1, _, by rw [HPP.out], by go_num, Lib.hid (by have := HJ'.out; omega), HP8, Lib.hid HWR.out.step, HB8⟩
              · obtain ⟨m, hmm⟩ : ∃ m, n % 4 = m := ⟨_, rfl⟩
                have m0 : ((m : Int) != 0) = true := bne_iff_ne.2 (by omega)
                have m0e : ((m : Int) == 0) = false := beq_eq_false_iff_ne.2 (by omega)
                have m1 : (n : Int) % 4 = (m : Int) := by omega
                have m2 : ((n : Int) + 4) % 4 = (m : Int) := by omega
                have m3 : ((n : Int) + 4).tmod 4 = (m : Int) := by rw [Int.tmod_eq_emod_of_nonneg (by omega)]; omega
                have HPP := Lib.hid (show pw (((n + 1) + 3) / 4) = pp from by rw [← hpp, show ((n + 1) + 3) / 4 = (n + 3) / 4 from by omega])
                have HLc := Lib.hid (fun k (hk : k < 4) => (show wr.cell? ⟨b3, o3 + k, none⟩ = some (.int .i64 ((tmpW (WS key n) (n + 4)).getD k 0 : Nat)) from by rw [tmpW_plain _ hm hk]; exact HC3.out k hk))
                have HLb := HN3
                have HBb := HBn
                have HRb := HR
                clear hpp hmm hm
                go_wp2_with fail
                obtain ⟨Wb, hWb⟩ : ∃ W, W = wr := ⟨_, rfl⟩
                rw [← hWb] at HLc HLb HBb HRb ⊢
                have HWB := Lib.hid (show Below wr.heap.size wr Wb from by rw [hWb]; exact Below.refl _ _)
                clear hWb
                have HC4 := Lib.hid (fun k (hk : k < 4) => (HWB.out.cell (p := ⟨b4, o4 + k, none⟩) HN4w.out.1).trans (HC4w.out k hk))
                have HCE4 := Lib.hid ((HWB.out.cell (p := ⟨b5, o5 + n, none⟩) HN4w.out.2).trans HCE4w.out)
                have HN4 := Lib.hid (show b4 < Wb.heap.size ∧ b5 < Wb.heap.size from ⟨Nat.lt_of_lt_of_le HN4w.out.1 HWB.out.size, Nat.lt_of_lt_of_le HN4w.out.2 HWB.out.size⟩)
                have x6 : (n : Int) < (lw : Int) := by have := Hlw.out; omega
                obtain ⟨n1, hn1⟩ : ∃ y, Wb.heap.size = y := ⟨_, rfl⟩
                have Hn1 := Lib.hid hn1
                clear hn1
                go_wp2_with fail
                go_loopg [10, 11] 6 (fun g v10 v11 w' => ∃ k : Nat, v11 = .int .i64 (k : Int) ∧ Hid (k ≤ 4 ∧ 4 < g + k) ∧ Hid ((Kd.int .i64).R tI w' n1 (fun _ => True) v10 (nat ((nxtW (WS key n) (n + 4)).take k))) ∧ Hid (Below n1 Wb w'))
                case atStart => exact ⟨0, rfl, Lib.hid ⟨by omega, by omega⟩, Lib.hid (Kd.R_nil _ _ _ _ _), Lib.hid (Below.refl _ _)⟩
                case round =>
                  obtain ⟨k, rfl, HI, HR10, HBk⟩ := hrel
                  cases gk with
                  | zero => have := HI.out; omega
                  | succ g2 =>
                    by_cases hk : k < 4
                    · have HI' := Lib.hid (show k < 4 ∧ 4 < (g2 + 1) + k from ⟨hk, HI.out.2⟩)
                      have y0 : (k : Int) < 4 := by omega
                      have y1 : (0 : Int) ≤ (k : Int) := by omega
                      have q1 := gwB (by rw [← Hn1.out]; exact HN4.out.2) HCE4.out HBk.out
                      obtain ⟨va, hva⟩ : ∃ y, (WS key n).getD (4 * n + k) 0 = y := ⟨_, rfl⟩
                      obtain ⟨vb, hvb⟩ : ∃ y, (tmpW (WS key n) (n + 4)).getD k 0 = y := ⟨_, rfl⟩
                      have q2 := gwB (by rw [← Hn1.out]; exact HN4.out.1) (HC4.out k hk) HBk.out
                      have q3 := gwB (by rw [← Hn1.out]; exact HLb.out) (HLc.out k hk) HBk.out
                      have a8 : va < 256 := by rw [← hva]; exact getD_lt0 (by decide) _ (WS_lt HK.out.2 n)
                      have b8 : vb < 256 := by rw [← hvb]; exact getD_lt0 (by decide) _ (tmpW_lt (WS_lt HK.out.2 n) _)
                      rw [hva] at q2
                      rw [hvb] at q3
                      try simp only [Nat.zero_add] at q3
                      have x1 := xor_i64 va vb (by omega) (by omega)
                      have hS := nat_snoc (l := nxtW (WS key n) (n + 4)) (j := k) (by rw [nxtW_len]; exact hk)
                      have hG : (nxtW (WS key n) (n + 4)).getD k 0 = va ^^^ vb := by rw [← hva, ← hvb]; exact nxtW_get _ n hk
                      rw [hG] at hS
                      have HS := Lib.hid hS
                      have HL := Lib.hid (show (nat ((nxtW (WS key n) (n + 4)).take k)).length = k from by rw [nat_length, List.length_take, nxtW_len]; omega)
                      have HB1 := Lib.hid (show n1 ≤ wr.heap.size from by have := HBk.out.size; have := Hn1.out; omega)
                      clear hva hvb a8 b8 hS hG hk HI
                      generalize va ^^^ vb = vx at *
                      generalize nat ((nxtW (WS key n) (n + 4)).take k) = xs at *
                      go_wp2_with fail
                      refine Q.wp_region_segsB n1 none [([0, 1, 2, 3, 4, 5, 6, 7, 8, 9, 10, 11, 12, 13], some 14), ([], some 15), ([16], none)] (by kernel_rfl) (by kernel_rfl) (by kernel_rfl) (by kernel_rfl) ?_
                      dsimp only [Q.wpSegs, Q.picks, Q.pick]
                      repeat (go_big_quiet_step (fail))
                      refine wpQuiet_nil ?_
                      clear q1 q2 q3
                      go_wp2_with fail
                      refine ev_keepN ((Below.refl _ _).alloc (Nat.le_refl _) _) HB1.out fun W2 hW2 => ?_
                      have HLi := Lib.hid (lit_i (w := wr.drew) hW2)
                      have hbw : Below wr.heap.size wr W2 := by rw [hW2]; exact (stay0 wr).alloc (Nat.le_refl _) _
                      have HR10d := Lib.hid (Kd.R_below HR10.out hbw)
                      have HBkd := Lib.hid (HBk.out.trans (hbw.mono HB1.out))
                      have HB2 := Lib.hid (show n1 ≤ W2.heap.size from Nat.le_trans HB1.out hbw.size)
                      clear hW2 hbw
                      first | refine wpQuiet_nil ?_ | skip
                      go_wp2_with (at_builtin; refine appn (w0 := Wb) .i64 n1 (.tmp 92) (.tmp 106) tSI tI 8 rfl rfl Try.underlying34 info_i (by decide) u10 xs [(vx : Int)] _ 1 1 rfl rfl HR10d.out HLi.out HBkd.out HB2.out (by have := HL.out; have := HI'.out; omega) ?_; intro v8 w8 hr8 hb8 hg8; (have HR8 := Lib.hid hr8); (have HB8 := Lib.hid hb8); (have HG8 := Lib.hid hg8); clear hr8 hb8 hg8)
                      refine Q.ev_app (gr_own HG8.out (fun k hk => Kd.R_base HR10d.out k hk) HB2.out) (Nat.le_refl _) (Q.NewRow.self _ _) ?_
                      repeat (go_big_quiet_step (fail))
                      refine wpQuiet_nil ?_
                      refine NoPanic.normal ?_
                      go_wp2_with fail
                      go_roundg g2
                      case measure => have := HI'.out; omega
                      case rel => exact ⟨k + 1, by go_num, Lib.hid (by have := HI'.out; omega), Lib.hid (by rw [← HS.out]; exact HR8.out), HB8⟩
                    · obtain rfl : k = 4 := by have := HI.out; omega
                      clear hk HI
                      have hr := HR10.out
                      rw [List.take_of_length_le (by rw [nxtW_len]; exact Nat.le_refl _)] at hr
                      obtain ⟨A10, c10, hv10, hc10, hC10⟩ := Kd.R_reads hr
                      rw [nat_length, nxtW_len] at hv10 hc10 hC10
                      have hT10 := Ty_R (A := A10) (by rw [← hv10]; exact hr)
                      have HC10 := Lib.hid (show (Kd.int .i64).C wr A10 (nxtW (WS key n) (n + 4)).length (nat (nxtW (WS key n) (n + 4))) from by rw [nxtW_len]; exact hC10)
                      have HT10 := Lib.hid hT10
                      have Hc10 := Lib.hid hc10
                      have HWb := Lib.hid (show Below Wb.heap.size Wb wr from by rw [Hn1.out]; exact HBk.out)
                      have HRr := Lib.hid (HRb.out.below HWb.out)
                      have HBr := Lib.hid (HBb.out.trans (HWb.out.mono HBb.out.size))
                      subst hv10
                      clear hr hC10 hT10 hc10
                      obtain ⟨ps, hp1, hp2, hp3⟩ := HRr.out.snoc
                      have HP1 := Lib.hid hp1
                      have HP2 := Lib.hid hp2
                      have HPl := Lib.hid (show ps.length = n + 4 from by rw [hp3]; exact HWR.out.count HK.out.1)
                      clear hp1 hp2 hp3
                      go_wp2_with (at_builtin; refine Kd.R_append kSl (w0 := w) w.heap.size rfl (.tmp 108) (.tmp 110) tSS tSI (.slice none 0 0) 24 rfl Try.underlying39 info_si rfl (by decide) (by decide) _ ps (A10, 4, c10) [.slice A10 4 c10] (fun _ => True) (fun _ => False) rfl rfl rfl (fun _ h => h.elim) (fun _ _ => trivial) HP1.out HBr.out HBr.out.size (by have := HPl.out; have := HJ'.out; omega) ?_; intro v8 w8 hr8 hb8 hg8 _; (have HR8 := Lib.hid hr8); (have HB8 := Lib.hid hb8); (have HG8 := Lib.hid hg8); clear hr8 hb8 hg8)
                      have HP8 := Lib.hid (show RI w.heap.size v8 (L ++ [nxtW (WS key n) (n + 4)]) w8 from by
                        have h := (HP2.out.snoc HC10.out (nxtW_lt (WS_lt HK.out.2 n) _) (by rw [nxtW_len]; exact Hc10.out) HT10.out).over HP1.out HG8.out
                        rw [nxtW_len] at h
                        exact ⟨_, HR8.out, h⟩)
                      go_roundg g1
                      case measure => have := HJ'.out; omega
                      case rel => exact ⟨n + 1, _, by rw [HPP.out], by go_num, Lib.hid (by have := HJ'.out; omega), HP8, Lib.hid HWR.out.step, HB8⟩
            · obtain rfl : n = 40 := by have := HJ.out; omega
              clear hn HJ
              have HF := Lib.hid (HR.out.read HWR.out HK.out.1)
              go_wp2_with fail
              go_ret
              exact ⟨_, rfl, HF.out, HBn.out⟩
end Go.Proofs.Ytblnclooobggnaa.A
