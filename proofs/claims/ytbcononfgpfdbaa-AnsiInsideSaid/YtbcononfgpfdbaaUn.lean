/-
  ansi: all; rows and parsers that stay.
-/
import Derived.Test.YtbcononfgpfdbaaUm
namespace Go.Proofs.Ytbcononfgpfdbaa.An
open Go.RowKit Go.Proofs.Ytbcononfgpfdbaa.L Go.Proofs.Ytbcononfgpfdbaa.N Go.Proofs.YtbcononfgpfdbaaW.PrintWords

set_option maxRecDepth 100000 in
set_option maxHeartbeats 6400000 in
theorem all_true (l : List Ev) (A1 A2 : Option Addr) (c1 c2 : Nat) (w : World) (h1 : kE.C w A1 l.length l) (h2 : kE.C w A2 l.length l) :
    Calls Try.prog 37 #[.slice A1 l.length c1, .slice A2 l.length c2] w fun e w' => e = .returned (.bool true) ∧ Below w.heap.size w w' := by
  have HC1 := Lib.hid h1
  have HC2 := Lib.hid h2
  have hmx := (E_open h1).1
  obtain ⟨L, hL⟩ : ∃ L, l.length = L := ⟨_, rfl⟩
  have HL := Lib.hid hL
  rw [hL]
  have z0 : (L : Int) ≤ 9223372036854775807 := by omega
  clear h1 h2 hL hmx
  go_enter Try.func37, Try.ntmps37
  go_wp2_with fail
  go_loopg [5] (L + 1) (fun g v5 w' => ∃ j : Nat, v5 = .int .i64 (j : Int) ∧ Hid (j ≤ L ∧ L < g + j) ∧ Hid (Below w.heap.size w w'))
  case atStart => exact ⟨0, rfl, Lib.hid ⟨by omega, by omega⟩, Lib.hid (Below.refl _ _)⟩
  case round =>
    obtain ⟨j, rfl, HJ, HB⟩ := hrel
    cases gk with
    | zero => have := HJ.out; omega
    | succ g1 =>
      by_cases hj : j < L
      · have HJ' := Lib.hid (show j < L ∧ L < (g1 + 1) + j from ⟨hj, HJ.out.2⟩)
        have z1 : (j : Int) < (L : Int) := by omega
        have z2 : (0 : Int) ≤ (j : Int) := by omega
        have hjl : j < l.length := by have := HL.out; omega
        obtain ⟨b1, o1, rfl, hb1, hc1⟩ := (E_open (Kd.C_below HC1.out HB.out)).2.resolve_left (fun h => by rw [h] at hjl; exact absurd hjl (by simp))
        obtain ⟨b2, o2, rfl, hb2, hc2⟩ := (E_open (Kd.C_below HC2.out HB.out)).2.resolve_left (fun h => by rw [h] at hjl; exact absurd hjl (by simp))
        obtain ⟨P1, p1, k1, _, m1⟩ := hc1 j hjl
        obtain ⟨P2, p2, k2, _, m2⟩ := hc2 j hjl
        obtain ⟨e, he⟩ : ∃ e, l.getD j zE = e := ⟨_, rfl⟩
        rw [he] at k1 k2 m1 m2
        have HM1 := Lib.hid m1
        have HM2 := Lib.hid m2
        have q0 := gw (w := wr) hb1 (show wr.cell? ⟨b1, o1 + j * 7, none⟩ = some (.int .i64 e.1) from by have := k1 0 (by decide); rwa [← Nat.add_assoc] at this)
        have q1 := gw (w := wr) hb1 (show wr.cell? ⟨b1, o1 + j * 7 + 1, none⟩ = some (.int .i32 e.2.1) from by have := k1 1 (by decide); rwa [← Nat.add_assoc] at this)
        have q2 := gw (w := wr) hb1 (show wr.cell? ⟨b1, o1 + j * 7 + 2, none⟩ = some (.int .u8 e.2.2.1) from by have := k1 2 (by decide); rwa [← Nat.add_assoc] at this)
        have q3 := gw (w := wr) hb1 (show wr.cell? ⟨b1, o1 + j * 7 + 3, none⟩ = some (.int .u8 e.2.2.2.1) from by have := k1 3 (by decide); rwa [← Nat.add_assoc] at this)
        have q4 := gw (w := wr) hb1 (show wr.cell? ⟨b1, o1 + j * 7 + 4, none⟩ = some (.int .u8 e.2.2.2.2.1) from by have := k1 4 (by decide); rwa [← Nat.add_assoc] at this)
        have q5 := gw (w := wr) hb1 (show wr.cell? ⟨b1, o1 + j * 7 + 5, none⟩ = some (.slice P1 e.2.2.2.2.2.1.length p1) from by have := k1 5 (by decide); rwa [← Nat.add_assoc] at this)
        have q6 := gw (w := wr) hb1 (show wr.cell? ⟨b1, o1 + j * 7 + 6, none⟩ = some (.string e.2.2.2.2.2.2) from by have := k1 6 (by decide); rwa [← Nat.add_assoc] at this)
        have r0 := gw (w := wr) hb2 (show wr.cell? ⟨b2, o2 + j * 7, none⟩ = some (.int .i64 e.1) from by have := k2 0 (by decide); rwa [← Nat.add_assoc] at this)
        have r1 := gw (w := wr) hb2 (show wr.cell? ⟨b2, o2 + j * 7 + 1, none⟩ = some (.int .i32 e.2.1) from by have := k2 1 (by decide); rwa [← Nat.add_assoc] at this)
        have r2 := gw (w := wr) hb2 (show wr.cell? ⟨b2, o2 + j * 7 + 2, none⟩ = some (.int .u8 e.2.2.1) from by have := k2 2 (by decide); rwa [← Nat.add_assoc] at this)
        have r3 := gw (w := wr) hb2 (show wr.cell? ⟨b2, o2 + j * 7 + 3, none⟩ = some (.int .u8 e.2.2.2.1) from by have := k2 3 (by decide); rwa [← Nat.add_assoc] at this)
        have r4 := gw (w := wr) hb2 (show wr.cell? ⟨b2, o2 + j * 7 + 4, none⟩ = some (.int .u8 e.2.2.2.2.1) from by have := k2 4 (by decide); rwa [← Nat.add_assoc] at this)
        have r5 := gw (w := wr) hb2 (show wr.cell? ⟨b2, o2 + j * 7 + 5, none⟩ = some (.slice P2 e.2.2.2.2.2.1.length p2) from by have := k2 5 (by decide); rwa [← Nat.add_assoc] at this)
        have r6 := gw (w := wr) hb2 (show wr.cell? ⟨b2, o2 + j * 7 + 6, none⟩ = some (.string e.2.2.2.2.2.2) from by have := k2 6 (by decide); rwa [← Nat.add_assoc] at this)
        clear he hb1 hb2 hc1 hc2 k1 k2 m1 m2 hjl hj HJ
        have HA1 := Lib.hid (fun W => as_any e P1 p1 W)
        have HA2 := Lib.hid (fun W => as_any e P2 p2 W)
        have HEq := Lib.hid (fun W (hb : Below wr.heap.size wr W) => equal_any e e P1 P2 p1 p2 W (Kd.C_below HM1.out hb) (Kd.C_below HM2.out hb))
        rw [eqE_self] at HEq
        obtain ⟨e0, e1, e2, e3, e4, e5, e6⟩ := e
        dsimp only at q0 q1 q2 q3 q4 q5 q6 r0 r1 r2 r3 r4 r5 r6
        obtain ⟨Le, hLe⟩ : ∃ Le, e5.length = Le := ⟨_, rfl⟩
        have HA1 := Lib.hid (show ∀ W, Calls Try.prog 35 #[.agg #[.int .i64 e0, .int .i32 e1, .int .u8 e2, .int .u8 e3, .int .u8 e4, .slice P1 Le p1, .string e6]] W fun en w' => en = .returned (.agg #[.int .i64 e0, .int .i32 e1, .int .u8 e2, .int .u8 e3, .int .u8 e4, .slice P1 Le p1, .string e6]) ∧ Below W.heap.size W w' from by rw [← hLe]; exact HA1.out)
        have HA2 := Lib.hid (show ∀ W, Calls Try.prog 35 #[.agg #[.int .i64 e0, .int .i32 e1, .int .u8 e2, .int .u8 e3, .int .u8 e4, .slice P2 Le p2, .string e6]] W fun en w' => en = .returned (.agg #[.int .i64 e0, .int .i32 e1, .int .u8 e2, .int .u8 e3, .int .u8 e4, .slice P2 Le p2, .string e6]) ∧ Below W.heap.size W w' from by rw [← hLe]; exact HA2.out)
        have HEq := Lib.hid (show ∀ W, Below wr.heap.size wr W → Calls Try.prog 34 #[.agg #[.int .i64 e0, .int .i32 e1, .int .u8 e2, .int .u8 e3, .int .u8 e4, .slice P1 Le p1, .string e6], .agg #[.int .i64 e0, .int .i32 e1, .int .u8 e2, .int .u8 e3, .int .u8 e4, .slice P2 Le p2, .string e6]] W fun en w' => en = .returned (.bool true) ∧ Below W.heap.size W w' from by rw [← hLe]; exact HEq.out)
        rw [hLe] at q5 r5
        rename_i HA10 HA20 HEq0
        clear HA10 HA20 HEq0 hLe HM1 HM2
        go_wp2_with fail
        refine Q.wp_region_segs none [([0, 1, 2, 3, 5, 6, 7, 8], some 4), ([], some 9), ([], some 10), ([11], none)] (by kernel_rfl) (by kernel_rfl) (by kernel_rfl) (by kernel_rfl) ?_
        dsimp only [Q.wpSegs, Q.picks, Q.pick]
        repeat (go_big_quiet_step (fail))
        refine wpQuiet_nil ?_
        clear q0 q1 q2 q3 q4 q5 q6 r0 r1 r2 r3 r4 r5 r6
        go_wp2_with fail
        refine (HA1.out _).mono ?_
        rintro e w4 ⟨rfl, hb4⟩
        have HB4 := Lib.hid ((stay0 wr).trans hb4)
        have HBn := Lib.hid hb4
        clear hb4
        go_wp2_with fail
        refine Q.ev_done HBn.out (Nat.le_refl _) ?_
        clear HBn
        refine wpQuiet_nil ?_
        go_wp2_with fail
        refine (HA2.out _).mono ?_
        rintro e w5 ⟨rfl, hb5⟩
        have HB5 := Lib.hid (HB4.out.trans (hb5.mono HB4.out.size))
        have HBn := Lib.hid hb5
        clear hb5 HB4
        go_wp2_with fail
        refine Q.ev_done HBn.out (Nat.le_refl _) ?_
        clear HBn
        refine wpQuiet_nil ?_
        go_wp2_with fail
        refine (HEq.out w5 HB5.out).mono ?_
        rintro e w6 ⟨rfl, hb6⟩
        have HB6 := Lib.hid (HB5.out.trans (hb6.mono HB5.out.size))
        have HBn := Lib.hid hb6
        clear hb6 HB5
        go_wp2_with fail
        refine Q.ev_done HBn.out (Nat.le_refl _) ?_
        clear HBn
        repeat (go_big_quiet_step (fail))
        refine wpQuiet_nil ?_
        refine NoPanic.normal ?_
        go_wp2_with fail
        go_roundg g1
        case measure => have := HJ'.out; omega
        case rel => exact ⟨j + 1, by go_num, Lib.hid (by have := HJ'.out; omega), Lib.hid (HB.out.trans (HB6.out.mono HB.out.size))⟩
      · obtain rfl : j = L := by have := HJ.out; omega
        clear hj HJ
        go_wp2_with fail
        go_ret
        exact ⟨rfl, HB.out⟩
/-- another parser than the one that is fed: it stays -/
theorem pm_stay {n0 n1 b b2 : Nat} {t : ByteArray} {vp vt vp' vt' vr up ut uo : Value} {S S2 : St} {evs evs2 : List Ev} {w w1 : World} (h : PMt t n1 b2 up ut uo S2 evs2 w) (ht : TR b vp vt nilS vp' vt' vr w w1) (hp : PM n0 b vp vt nilS S evs w) (hne : b2 ≠ b)
    (d1 : ∀ k, up.ownBlock = some k → k ≠ b ∧ some k ≠ vp.ownBlock ∧ some k ≠ vt.ownBlock) (d2 : ∀ k, ut.ownBlock = some k → k ≠ b ∧ some k ≠ vp.ownBlock ∧ some k ≠ vt.ownBlock) (d3 : uo = nilS) (d4 : evs2 = []) : PMt t n1 b2 up ut uo S2 evs2 w1 := by
  have tyne : ∀ {e : TypeId} {k : Nat} {cells cells2 : Array Value} {e2 : TypeId}, w.heap[k]? = some (.cells cells e (0, 0)) → w.heap[k]? = some (.cells cells2 e2 (0, 0)) → e = e2 := fun h1 h2 => by
    rw [h1] at h2
    injection h2 with h2
    injection h2
  refine ⟨?_, ?_, ?_, ?_, h.ge, h.oks⟩
  · refine (ht.keep b2 h.lt hne (fun e => ?_) (fun e => ?_) (by simp [Value.ownBlock])).trans h.blk
    · obtain ⟨c, hc⟩ := Kd.R_typed hp.par b2 e.symm
      exact absurd (tyne h.blk hc) (by decide)
    · obtain ⟨c, hc⟩ := Kd.R_typed hp.txt b2 e.symm
      exact absurd (tyne h.blk hc) (by decide)
  · refine ⟨h.par.1, ?_⟩
    have h1 : (Kd.int .i64).R tI w n1 (fun k => up.ownBlock = some k) up (nat S2.par) := ⟨fun k hk => hk, h.par.2.imp_ (fun _ _ hp => hp)⟩
    exact (Kd.R_mono (Kd.R_step h1 (fun k hk hlt => ht.keep k hlt (d1 k hk).1 (d1 k hk).2.1 (d1 k hk).2.2 (by simp [Value.ownBlock]))) (fun _ _ => trivial)).2
  · refine ⟨h.txt.1, ?_⟩
    have h1 : (Kd.int .i32).R tR w n1 (fun k => ut.ownBlock = some k) ut (nat S2.text) := ⟨fun k hk => hk, h.txt.2.imp_ (fun _ _ hp => hp)⟩
    exact (Kd.R_mono (Kd.R_step h1 (fun k hk hlt => ht.keep k hlt (d2 k hk).1 (d2 k hk).2.1 (d2 k hk).2.2 (by simp [Value.ownBlock]))) (fun _ _ => trivial)).2
  · rw [d3, d4]
    exact Kd.R_nil _ _ _ _ _
/-- rows of events, where a parser that has none of its own is fed -/
theorem evs_stay0 {n0 b : Nat} {ok : Nat → Prop} {vp' vt' vr v : Value} {evs : List Ev} {cs : Array Value} {w w1 : World} (h : kE.R tE w n0 ok v evs) (ht : TR b nilS nilS nilS vp' vt' vr w w1) (hb : w.heap[b]? = some (.cells cs tP (0, 0))) : kE.R tE w1 n0 ok v evs := by
  have h1 := Kd.R_bound h
  refine Kd.R_mono (Kd.R_step h1 (fun k hk _ => ?_)) (fun k hk => hk.1)
  obtain ⟨_, _, h4, q, hq, cells, hc⟩ := hk
  have hq2 : q = tE ∨ q = tI := by simp [kE, Kd.pair, Kd.slice, Kd.string, Kd.int, Kd.scalar] at hq; exact hq
  refine ht.keep k h4 (fun e => ?_) (by simp [Value.ownBlock]) (by simp [Value.ownBlock]) (by simp [Value.ownBlock])
  rw [e, hb] at hc
  injection hc with hc
  injection hc with _ hc _
  rcases hq2 with rfl | rfl <;> exact absurd hc (by decide)
/-- events that are read through an older world -/
def kG (w0 : World) : Kd Ev := Kd.fixed kE w0
theorem kG_C {w0 w : World} {A : Option Addr} {n : Nat} {l : List Ev} (h : (kG w0).C w A n l) (hb : Below w0.heap.size w0 w) : kE.C w A n l := ReadsRow.imp_ h (Below.refl _ _) (fun _ _ hp => kE.K_below hb hp)
theorem kG_of {w0 w : World} {A : Option Addr} {n : Nat} {l : List Ev} (h : kE.C w0 A n l) (hb : Below w0.heap.size w0 w) : (kG w0).C w A n l := Kd.C_below (d := kG w0) h hb
/-- an empty literal's row -/
theorem R_blank {α : Type} (dk : Kd α) (e : TypeId) (W : World) (B : Nat) (hB : B ≤ W.heap.size) : dk.R e (W.alloc (.cells #[] e)) B (fun _ => True) (.slice (some ⟨W.heap.size, 0, none⟩) 0 0) [] :=
  ⟨fun _ _ => trivial, [], ⟨by simp, .inr ⟨W.heap.size, 0, #[], rfl, hB, heap_alloc_new W _, Nat.le_refl _, by decide, by simp, by simp⟩⟩, Reps.none _ _⟩
section
variable {ops : Array Oper} {rest : List Oper} {o : Oper} {a : Act} {Q : Exit → Act → World → Prop}
/-- append of events that are read -/
theorem appG {w0 W : World} (B : Nat) (s x : Operand) (hgd : o.guard = none) (ho : o.op = .call { callee := .builtin .append, args := #[s, x], argTypes := #[58, 58] })
    (v : Value) (xs ys : List Ev) (A : Option Addr) (m c : Nat) (hs : a.eval s = v) (hx : a.eval x = .slice A m c)
    (HO : (kG w0).R tE W B (fun _ => True) v xs) (HR : (kG w0).C W A m ys) (hB : B ≤ W.heap.size) (hl : (xs.length + m) * 56 ≤ 140737488355328)
    (h : ∀ v1 w1, (kG w0).R tE w1 B (fun _ => True) v1 (xs ++ ys) → Below B W w1 → W.grownBy w1 v.ownBlock → wpList Try.prog ops Q rest (a.put o.dst v1) w1) :
    wpList Try.prog ops Q (o :: rest) a W :=
  Kd.R_append_rows (kG w0) (Rr := (kG w0).K W) (w0 := W) B hgd s x 58 tE (.agg #[.int .i64 0, .int .i32 0, .int .u8 0, .int .u8 0, .int .u8 0, .slice none 0 0, .string ⟨#[]⟩]) 56 ho Try.underlying58 info_E rfl (by show 0 < 7; decide) (by decide) v xs ys A m c (fun _ => True) (fun _ => False) hs hx HO HR (fun _ _ hk => hk) (fun _ hk => hk.elim) (fun _ _ => trivial) (Below.refl _ _) hB hl (fun v1 w1 h1 h2 h3 _ => h v1 w1 h1 h2 h3)
end
end Go.Proofs.Ytbcononfgpfdbaa.An
