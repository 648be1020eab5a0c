/-
  drr: Add, Remove, Spend, Members.
-/
import Derived.Test.YtbcononfgpfdbaaDd
import Derived.ArgAppend
import Derived.Deep.Upon
namespace Go.Proofs.Ytbcononfgpfdbaa.D
open Go.RowKit Go.Proofs.Ytbcononfgpfdbaa.L Go.Proofs.YtbcononfgpfdbaaW.PrintWords

def fl : List Mem → List Value
  | [] => []
  | m :: r => .int .u64 m.1 :: .int .i64 m.2 :: fl r
theorem fl_length : ∀ l : List Mem, (fl l).length = l.length * 2
  | [] => rfl
  | m :: r => by simp [fl, fl_length r]; omega
theorem fl_app : ∀ l l' : List Mem, fl (l ++ l') = fl l ++ fl l'
  | [], _ => rfl
  | m :: r, l' => by simp [fl, fl_app r l']
theorem fl_get : ∀ {l : List Mem} {j : Nat} {u : Value}, (fl l)[j]? = some u → ∃ k m, l[k]? = some m ∧ ((j = k * 2 ∧ u = .int .u64 m.1) ∨ (j = k * 2 + 1 ∧ u = .int .i64 m.2))
  | [], j, u, h => by simp [fl] at h
  | m :: r, 0, u, h => ⟨0, m, rfl, .inl ⟨rfl, by simpa [fl] using h.symm⟩⟩
  | m :: r, 1, u, h => ⟨0, m, rfl, .inr ⟨rfl, by simpa [fl] using h.symm⟩⟩
  | m :: r, j + 2, u, h => by
    obtain ⟨k, m', h1, h2⟩ := fl_get (l := r) (j := j) (u := u) (by simpa [fl] using h)
    refine ⟨k + 1, m', by simpa using h1, ?_⟩
    rcases h2 with ⟨rfl, h2⟩ | ⟨rfl, h2⟩
    · exact .inl ⟨by omega, h2⟩
    · exact .inr ⟨by omega, h2⟩
theorem fl_drop : ∀ {l : List Mem} {k : Nat} {m : Mem}, l[k]? = some m → ((fl l).drop (k * 2)).take 2 = [.int .u64 m.1, .int .i64 m.2]
  | [], k, m, h => by simp at h
  | m :: r, 0, m', h => by
    obtain rfl : m = m' := by simpa using h
    rfl
  | m :: r, k + 1, m', h => by
    rw [show (k + 1) * 2 = k * 2 + 1 + 1 from by omega]
    exact fl_drop (l := r) (by simpa using h)
theorem fl_one {l : List Mem} : ∀ u ∈ fl l, u.oneCell' = true := fun u hu => by
  obtain ⟨j, hj⟩ := List.mem_iff_getElem?.1 hu
  obtain ⟨k, m, _, h | h⟩ := fl_get hj
  · rw [h.2]; rfl
  · rw [h.2]; rfl
theorem C_fl {w : World} {A : Option Addr} {n : Nat} {l : List Mem} (h : kM.C w A n l) {ad : Addr} (ha : A = some ad) {j : Nat} {u : Value} (hj : (fl l)[j]? = some u) : w.cell? (ad.add j) = some u := by
  obtain ⟨k, m, hk, hu⟩ := fl_get hj
  have hkl := (List.getElem?_eq_some_iff.1 hk).1
  obtain ⟨ad', hA, hc⟩ := h.2.2 (by have := h.1; omega)
  rw [ha] at hA
  injection hA with hA
  subst hA
  obtain ⟨c, _, hK, hcc⟩ := hc k m hk
  have hK := K_cells.1 hK
  subst hK
  rcases hu with ⟨rfl, rfl⟩ | ⟨rfl, rfl⟩
  · exact hcc 0 _ rfl
  · exact hcc 1 _ rfl
theorem R_fl {w : World} {B : Nat} {v : Value} {l : List Mem} (h : w.ownsRow B tM 2 v l.length (fl l)) : kM.R tM w B (fun _ => True) v l :=
  ⟨fun _ _ => trivial, fl l, h, fl_length l, fun j p hj => M_cells.2 (fl_drop hj)⟩
section
variable {ops : Array Oper} {rest : List Oper} {o : Oper} {a : Act} {Q : Exit → Act → World → Prop}
/-- append(s[:n:n], ys...): what was there stays; a new row. -/
theorem apprM {W : World} (s x : Operand) (hgd : o.guard = none) (ho : o.op = .call { callee := .builtin .append, args := #[s, x], argTypes := #[47, 47] })
    (xs ys : List Mem) (A A2 : Option Addr) (n m c : Nat) (hs : a.eval s = .slice A n n) (hx : a.eval x = .slice A2 m c) (HC : kM.C W A n xs) (HR : kM.C W A2 m ys) (hnone : A = none → n = 0) (hm : 0 < m) (hl : (n + m) * 16 ≤ 140737488355328)
    (h : ∀ v1 w1, kM.R tM w1 W.heap.size (fun _ => True) v1 (xs ++ ys) → W.grownBy w1 none → wpList Try.prog ops Q rest (a.put o.dst v1) w1) : wpList Try.prog ops Q (o :: rest) a W := by
  obtain ⟨i0, hi, hzz⟩ := Option.map_eq_some_iff.1 info_M
  simp only [Prod.mk.injEq] at hzz
  obtain ⟨hz0, hz1, hz2⟩ := hzz
  have hxl : xs.length = n := HC.1
  have hyl : ys.length = m := HR.1
  obtain ⟨ad, hA2, _⟩ := HR.2.2 hm
  refine wpList_append_grows W hgd s x 47 ho tM i0 (.agg #[.int .u64 0, .int .i64 0]) 2 16 Try.underlying47 hi hz0 hz1 hz2 rfl (by decide) A n n (fl xs) hs (fun h0 => ⟨hnone h0, hnone h0⟩) (by rw [fl_length, hxl]) (fun b hb j u hu => C_fl HC hb hu) ad m c (fl ys) (by rw [hx, hA2]) (by rw [fl_length, hyl]) (fun j u hu => C_fl HR hA2 hu) fl_one (by omega) (by simp only [maxLen]; omega) hl ?_
  intro v' w' hown hg
  refine h v' w' (R_fl ?_) hg
  rw [fl_app, show (xs ++ ys).length = n + m from by simp [hxl, hyl]]
  exact hown
end
/-- one that a literal laid -/
theorem C_lit (W : World) (m : Mem) : kM.C (W.alloc (.cells #[.int .u64 m.1, .int .i64 m.2] tM)) (some ⟨W.heap.size, 0, none⟩) 1 [m] := by
  refine ⟨rfl, by decide, fun _ => ⟨_, rfl, fun j p hj => ?_⟩⟩
  have hj0 : j = 0 := by
    rcases Nat.eq_zero_or_pos j with h0 | h0
    · exact h0
    · rw [List.getElem?_eq_none (by simp; omega)] at hj; cases hj
  subst hj0
  obtain rfl : m = p := by simpa using hj
  refine ⟨[.int .u64 m.1, .int .i64 m.2], rfl, K_cells.2 rfl, fun i u hu => ?_⟩
  rw [add_at, blk_cell (heap_alloc_new W _)]
  simpa using hu
theorem cut_cap {P : Program} (t e : TypeId) {i : TypeInfo} (ht : P.underlying t = some (.slice e)) (hi : P.info? e = some i) (A : Option Addr) (n c : Nat) (hc : n ≤ c) :
    ∀ W : World, (Instr.slice t (.slice A n c) none (some (.int .i64 n)) (some (.int .i64 n))).run P W = .ok (.slice A n n) W := by
  intro W
  have e1 : ∀ a : Addr, Addr.add a 0 = a := fun a => by simp [Addr.add]
  have e2 : (Option.map (fun x : Addr => x.add 0) A) = A := by cases A <;> simp [e1]
  simp [Instr.slice, run_underlying ht, Instr.sliceBounds, Instr.sliceBound, asIntOf, hc, sizeOf, typeInfo, hi, Result.andThen, e2]
/-- s[lo:] -/
theorem cutfM (A : Option Addr) (n c : Nat) (lo : Nat) (h1 : lo ≤ n) (hc : n ≤ c) :
    ∃ A' c', (∀ W : World, (Instr.slice 47 (.slice A n c) (some (.int .i64 (lo : Int))) none none).run Try.prog W = .ok (.slice A' (n - lo) c') W) ∧
      ∀ (W : World) (l : List Mem), kM.C W A n l → kM.C W A' (n - lo) (l.drop lo) := by
  obtain ⟨i0, hi0, hz0⟩ := info_of info_M
  refine ⟨_, _, fun W => (cut_from 47 tM .i64 Try.underlying47 hi0 2 hz0 A n c lo (by omega) (by omega) W), ?_⟩
  intro W l hC
  have hl := hC.1
  rw [← hl] at hC
  have h := Kd.C_mid (xs := l) (lo := lo) (hi := n) (c := c) hC (by omega) (by omega) (by omega)
  have hlen : (l.drop lo).length = n - lo := by simp; omega
  rw [List.take_of_length_le (by omega), hlen] at h
  exact h
/-- s[:hi] -/
theorem cuttM (A : Option Addr) (n c : Nat) (hi : Nat) (h1 : hi ≤ n) (hc : n ≤ c) :
    (∀ W : World, (Instr.slice 47 (.slice A n c) none (some (.int .i64 (hi : Int))) none).run Try.prog W = .ok (.slice A hi c) W) ∧
      ∀ (W : World) (l : List Mem), kM.C W A n l → kM.C W A hi (l.take hi) := by
  obtain ⟨i0, hi0, hz0⟩ := info_of info_M
  refine ⟨fun W => (cut_to 47 tM .i64 Try.underlying47 hi0 A n c hi (by omega) (by omega) hc W), ?_⟩
  intro W l hC
  have hl := hC.1
  rw [← hl] at hC
  have h := Kd.C_take hC (m := hi) (by omega)
  rwa [show (l.take hi).length = hi from by simp; omega] at h

section
variable {ops : Array Oper} {rest : List Oper} {o : Oper} {a : Act} {Q : Exit → Act → World → Prop}
/-- append(s, y), the new block's number as the walk writes it -/
theorem app1H {P : Program} {w0 W : World} (k : IntKind) (B H : Nat) (hH : W.heap.size = H) (s x : Operand) (t e : TypeId) (bytes : Nat) (hgd : o.guard = none)
    (ho : o.op = .call { callee := .builtin .append, args := #[s, x], argTypes := #[t, t] }) (ht : P.underlying t = some (.slice e))
    (hinfo : (P.info? e).map (fun i => (i.zero, i.size, i.bytes)) = some (some (.int k 0), 1, bytes)) (hb0 : 0 < bytes)
    (v : Value) (xs : List Int) (y : Int) (hs : a.eval s = v) (hx : a.eval x = .slice (some ⟨H, 0, none⟩) 1 1)
    (HO : (Kd.int k).R e W B (fun _ => True) v xs) (HB : Below B w0 W) (hB : B ≤ W.heap.size) (hl : (xs.length + 1) * bytes ≤ 140737488355328)
    (h : ∀ v1 w1, (Kd.int k).R e w1 B (fun _ => True) v1 (xs ++ [y]) → Below B w0 w1 → W.grownBy w1 v.ownBlock → wpList P ops Q rest (a.put o.dst v1) w1) :
    wpList P ops Q (o :: rest) a (W.alloc (.cells #[.int k y] e)) := by
  subst hH
  exact app1 k B s x t e bytes hgd ho ht hinfo hb0 v xs y hs hx HO HB hB hl h
end
set_option maxHeartbeats 1600000 in
set_option maxRecDepth 100000 in
theorem members_any (b B : Nat) (q : Int) (L : List Mem) (w : World) (h : RG b q L B w) (hq : 1 ≤ q) (hn : L.length ≤ 1000000) : Calls Try.prog 24 #[.pointer (some ⟨b, 0, none⟩)] w fun e w' => ∃ v0 : Value, e = .returned v0 ∧ (Kd.int .u64).R 29 w' w.heap.size (fun _ => True) v0 (L.map (·.1)) ∧ Below w.heap.size w w' := by
  obtain ⟨A, c, hb, hc, hC, k0, k1, kf, hR, hB⟩ := h.opens
  have HM := Lib.hid (made_any b q w k0 hq)
  have HC := Lib.hid hC
  clear hb hC hc kf hR hB h k0 hq
  go_enter Try.func24, Try.ntmps24
  go_wp2_with fail
  refine HM.out.mono ?_
  rintro e w' ⟨rfl, rfl⟩
  go_wp2_with fail
  clear k1
  go_loopg [3, 13] (L.length + 1) (fun g v3 v13 w' => ∃ (m : Nat) (xs : List Int), v13 = .int .i64 m ∧ Hid (m ≤ L.length ∧ L.length < g + m) ∧ Hid (xs = (L.take m).map (·.1)) ∧ Hid ((Kd.int .u64).R 29 w' w.heap.size (fun _ => True) v3 xs) ∧ Hid (Below w.heap.size w w'))
  case atStart => exact ⟨0, [], rfl, Lib.hid ⟨by omega, by omega⟩, Lib.hid rfl, Lib.hid (Kd.R_nil _ _ _ _ _), Lib.hid (Below.refl _ _)⟩
  case round =>
    obtain ⟨m, xs, rfl, HJ, HX, HR, HB⟩ := hrel
    cases gk with
    | zero => have := HJ.out; omega
    | succ k =>
      by_cases hlt : m < L.length
      · rcases (M_open HC.out).2 with e | ⟨bo, off, rfl, hbo, hcells⟩
        · subst e; simp at hlt
        obtain ⟨c0, c1⟩ := hcells m hlt
        have c0 := (HB.out.cell (p := ⟨bo, off + m * 2, none⟩) hbo).trans c0
        have c1 := (HB.out.cell (p := ⟨bo, off + m * 2 + 1, none⟩) hbo).trans c1
        have HT := Lib.hid (show xs ++ [(L.getD m zM).1] = (L.take (m + 1)).map (·.1) from by
          rw [HX.out, List.take_succ_eq_append_getElem hlt, List.map_append, List.getD_eq_getElem?_getD, List.getElem?_eq_getElem hlt]
          rfl)
        have HJ' := Lib.hid (show m < L.length ∧ L.length < (k + 1) + m from ⟨hlt, HJ.out.2⟩)
        clear hcells HJ hbo
        generalize L.getD m zM = mm at *
        obtain ⟨A3, c3, rfl, hc3, hC3⟩ := Kd.R_reads HR.out
        clear hC3
        go_wp2_with (at_builtin; refine app1H (w0 := w) .u64 w.heap.size (wr.heap.size + 1) (by simp) (.tmp 17) (.tmp 20) 39 29 8 rfl rfl Try.underlying39 (by kernel_rfl) (by decide) (.slice A3 xs.length c3) xs mm.1 rfl rfl (Kd.R_below HR.out ((Below.refl _ _).alloc (Nat.le_refl _) _)) (HB.out.alloc HB.out.size _) (Nat.le_trans HB.out.size (by simp)) (by have := congrArg List.length HX.out; simp at this; omega) ?_; intro v1 w1 ho1 hb1 _; (have HO1 := Lib.hid ho1); (have HB1 := Lib.hid hb1); clear ho1 hb1)
        go_roundg k
        case measure => have := HJ'.out; omega
        case rel => exact ⟨m + 1, _, by go_num, Lib.hid (by have := HJ'.out; omega), HT, HO1, HB1⟩
      · have hm : m = L.length := by have := HJ.out; omega
        go_wp2_with fail
        go_ret
        refine ⟨_, rfl, ?_, HB.out⟩
        have := HR.out
        rwa [HX.out, List.take_of_length_le (by omega)] at this

theorem below_grown {w w1 : World} (h : w.grownBy w1 none) : Below w.heap.size w w1 := ⟨h.os, h.tape, h.output, h.size, fun k hk => h.block k hk (by simp)⟩
/-- a ring whose row is another one now -/
theorem RG.put {b B B' : Nat} {q : Int} {L L' : List Mem} {w w1 : World} {v : Value} (h : RG b q L B w) (hb : Below w.heap.size w w1) (hR : kM.R tM w1 B' (fun _ => True) v L') (hB : B ≤ B') : RG b q L' B (w1.setCell ⟨b, 1, none⟩ v) ∧ FR B w (w1.setCell ⟨b, 1, none⟩ v) := by
  obtain ⟨v0, h1, h2, h3⟩ := h
  have h1' := blk_below h1 hb
  refine ⟨⟨v, ?_, h2, Kd.R_lower (Kd.R_set hR h1' (by intro q hq; simp [show kM.E = [] from rfl] at hq; subst hq; decide) 1 v) hB⟩, (FR.of_below hb (by have := blk_lt h1; omega)).trans (FR.set h1' h2 (.inl rfl))⟩
  have := blk_set h1' 1 v
  simpa using this
theorem RG.none_ {b B : Nat} {q : Int} {L : List Mem} {w : World} {A : Option Addr} {c : Nat} (h : kM.C w A L.length L) : A = none → L.length = 0 := fun h0 => by
  rcases Nat.eq_zero_or_pos L.length with hz | hz
  · exact hz
  · obtain ⟨ad, hA, _⟩ := h.2.2 hz
    rw [h0] at hA
    cases hA
set_option maxHeartbeats 1600000 in
set_option maxRecDepth 100000 in
theorem add_any (b B : Nat) (q : Int) (L : List Mem) (id : Int) (w : World) (h : RG b q L B w) (hq : 1 ≤ q ∧ q ≤ 65536) (hn : L.length ≤ 16) :
    Calls Try.prog 17 #[.pointer (some ⟨b, 0, none⟩), .int .u64 id] w fun e w' => e = .returned (.int .i64 (addP q L id).1) ∧ RG b q (addP q L id).2 B w' ∧ FR B w w' := by
  obtain ⟨A, c, hb, hc, hC, k0, k1, kf, hR, hB⟩ := h.opens
  have HM := Lib.hid (made_any b q w k0 hq.1)
  have HG := Lib.hid h
  have HF := Lib.hid (find_any b B q L id w h)
  unfold addP
  by_cases hf : fnd id L < L.length
  · rw [if_pos hf]
    have t1 : decide ((0 : Int) ≤ fndI id L) = true := decide_eq_true (by unfold fndI; rw [if_pos hf]; omega)
    clear hb hC hc kf hR hB h k0 hq hf
    generalize fndI id L = k at *
    go_enter Try.func17, Try.ntmps17
    go_wp2_with fail
    refine HM.out.mono ?_
    rintro e w1 ⟨rfl, rfl⟩
    go_wp2_with fail
    refine HF.out.mono ?_
    rintro e w1 ⟨rfl, hb1⟩
    have HB := Lib.hid hb1
    clear hb1 k1
    go_wp2_with fail
    go_ret
    exact ⟨rfl, HG.out.below HB.out, FR.of_below HB.out (by have := HG.out.lt; obtain ⟨_, _, h, _⟩ := HG.out; omega)⟩
  rw [if_neg hf]
  have e1 : fndI id L = -1 := by unfold fndI; rw [if_neg hf]
  rw [e1] at HF
  by_cases hfull : 16 ≤ L.length
  · rw [if_pos hfull]
    have t2 : decide ((16 : Int) ≤ (L.length : Int)) = true := decide_eq_true (by omega)
    clear hb hC hc kf hR hB h k0 hq hf e1 hfull hn
    go_enter Try.func17, Try.ntmps17
    go_wp2_with fail
    refine HM.out.mono ?_
    rintro e w1 ⟨rfl, rfl⟩
    go_wp2_with fail
    refine HF.out.mono ?_
    rintro e w1 ⟨rfl, hb1⟩
    have HB := Lib.hid hb1
    have k1' := pw_cell_below hb1 k1
    clear hb1 k1
    go_wp2_with fail
    go_ret
    exact ⟨rfl, HG.out.below HB.out, FR.of_below HB.out (by have := HG.out.lt; obtain ⟨_, _, h, _⟩ := HG.out; omega)⟩
  rw [if_neg hfull]
  have t2 : decide ((16 : Int) ≤ (L.length : Int)) = false := decide_eq_false (by omega)
  have HC := Lib.hid hC
  have hcut := cut_cap (P := Try.prog) 47 tM Try.underlying47 (info_of info_M).choose_spec.1 A L.length c hc
  have HBk := Lib.hid hb
  have HBB := Lib.hid hB
  have HN := Lib.hid (RG.none_ (b := b) (B := B) (q := q) (w := w) (A := A) (c := c) hC)
  have HL := Lib.hid hn
  have HQ := Lib.hid hq
  clear hb hC hc kf hR hB h k0 hq hf e1 hfull hn
  go_enter Try.func17, Try.ntmps17
  go_wp2_with fail
  refine HM.out.mono ?_
  rintro e w1 ⟨rfl, rfl⟩
  go_wp2_with fail
  refine HF.out.mono ?_
  rintro e w1 ⟨rfl, hb1⟩
  have HB := Lib.hid hb1
  have k1' := pw_cell_below hb1 k1
  clear hb1 k1 HM HF
  go_wp2_with fail
  have q1 : ∀ m : Q.GW w1.drew w1.heap.size none, m.w.cell? ⟨b, 1, none⟩ = some (.slice A L.length c) := fun m => pw_cell_below (stay1 (stay0 w1) m.below) k1'
  refine Q.wp_region_segsF none [([0, 1, 2, 3, 4, 5, 6, 7, 8, 9, 10, 11, 12, 13, 14, 15, 16, 17], some 18), ([], some 19)] [20, 21] 22 (by kernel_rfl) (by kernel_rfl) (by kernel_rfl) (by kernel_rfl) ?_
  dsimp only [Q.wpSegsF, Q.picks, Q.pick]
  repeat (go_big_quiet_step (fail))
  refine wpQuiet_nil ?_
  clear q1
  go_wp2_with fail
  refine Q.ev_done ((Below.refl _ _).alloc (Nat.le_refl _) _) (Nat.le_refl _) ?_
  refine wpQuiet_nil ?_
  have HB2 := Lib.hid (show Below w.heap.size w (w1.drew.alloc (.cells #[.int .u64 id, .int .i64 0] tM)) from stay1 (stay1 HB.out (stay0 w1)) ((Below.refl _ _).alloc (Nat.le_refl _) _))
  go_wp2_with (at_builtin; refine apprM (.tmp 36) (.tmp 39) rfl rfl L [(id, 0)] A (some ⟨w1.drew.heap.size, 0, none⟩) L.length 1 1 rfl rfl (Kd.C_below HC.out HB2.out) (C_lit w1.drew (id, 0)) HN.out (by decide) (by have := HL.out; omega) ?_; intro v3 w3 hr3 hg3; (have HR3 := Lib.hid hr3); (have HG3 := Lib.hid hg3); clear hr3 hg3)
  refine Q.ev_done (below_grown HG3.out) (by simp) ?_
  have HB3 := Lib.hid (stay1 HB2.out (below_grown HG3.out))
  clear HB2 HG3 k1'
  obtain ⟨A3, c3, hv3, hc3, hC3⟩ := Kd.R_reads HR3.out
  obtain ⟨n3, hn3⟩ : ∃ n3, (L ++ [(id, (0 : Int))]).length = n3 := ⟨_, rfl⟩
  rw [hn3] at hv3
  subst hv3
  have HN3 := Lib.hid (show n3 = L.length + 1 from by rw [← hn3]; simp)
  have hn63 : (n3 : Int) ≤ 9223372036854775807 := by have := HL.out; have := HN3.out; omega
  clear hC3 hc3 hn3
  repeat (go_big_quiet_step (fail))
  refine wpQuiet_nil ?_
  have HG3 := Lib.hid (HG.out.below HB3.out)
  obtain ⟨_, _, hb3, _, _, _, r1, f3, _⟩ := HG3.out.opens
  have g1 := f3 1
  clear hb3 f3
  go_wp2
  refine NoPanic.normal ?_
  clear r1 g1
  obtain ⟨HP1, HP2⟩ := RG.put HG.out HB3.out HR3.out (by have := HG.out.lt; have := HB3.out.size; have := (HB.out).size; obtain ⟨_, _, h, _⟩ := HG.out; simp; omega)
  obtain ⟨w4, hw4⟩ : ∃ w4, w4 = w3.setCell ⟨b, 1, none⟩ (.slice A3 n3 c3) := ⟨_, rfl⟩
  rw [← hw4] at HP1 HP2 ⊢
  clear hw4
  have HP1 := Lib.hid HP1
  have HP2 := Lib.hid HP2
  clear HR3 HG3 HB HB3 HC HN HBk
  obtain ⟨A5, c5, hb5, _, _, _, r1, _⟩ := HP1.out.opens
  clear hb5
  rw [show (L ++ [(id, (0 : Int))]).length = n3 from by rw [HN3.out]; simp] at r1
  by_cases hz : L.length = 0
  · have t3 : ((n3 : Int) == 1) = true := by have := HN3.out; simp; omega
    have hL0 : L = [] := List.eq_nil_of_length_eq_zero hz
    have HBG := Lib.hid (begin_any b B q (L ++ [(id, 0)]) w4 HP1.out ⟨by have := HQ.out; omega, HQ.out.2⟩ (by subst hL0; intro m hm; obtain rfl := List.mem_singleton.1 hm; exact ⟨Int.le_refl _, show (0 : Int) ≤ 1000000000000 from by decide⟩))
    have HZ := Lib.hid hz
    have HL0 := Lib.hid hL0
    clear hz hL0
    go_wp2_with fail
    refine HBG.out.mono ?_
    rintro e w5 ⟨⟨v5, rfl⟩, hg5, hf5⟩
    have HG5 := Lib.hid hg5
    have HF5 := Lib.hid hf5
    clear hg5 hf5 HBG r1
    go_wp2_with fail
    go_ret
    refine ⟨rfl, ?_, HP2.out.trans HF5.out⟩
    have := HG5.out
    rw [HL0.out] at this
    simpa [beg] using this
  · have t3 : ((n3 : Int) == 1) = false := beq_eq_false_iff_ne.2 (by have := HN3.out; omega)
    have HZ := Lib.hid hz
    clear hz
    go_wp2_with fail
    go_ret
    exact ⟨rfl, HP1.out, HP2.out⟩
end Go.Proofs.Ytbcononfgpfdbaa.D
