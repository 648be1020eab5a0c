/-
  ansi: a control within a sequence: the plain law, and appends of points.
-/
import Derived.Test.YtbcononfgpfdbaaUo
import Derived.Test.YtbcononfgpfdbaaQe
namespace Go.Proofs.Ytbcononfgpfdbaa.An
open Go.RowKit Go.Proofs.Ytbcononfgpfdbaa.L Go.Proofs.Ytbcononfgpfdbaa.N Go.Proofs.YtbcononfgpfdbaaW.PrintWords

abbrev ctE (p : Int) : Ev := (2, p, 0, 0, 0, [], .empty)
def seqB (x : Int) : Prop := 32 ≤ x ∧ x ≤ 63
def ctlB (p : Int) : Prop := 0 ≤ p ∧ p < 32 ∧ p ≠ 24 ∧ p ≠ 26 ∧ p ≠ 27
theorem conS_low {S : St} (hst : S.st = 2) {c : Nat} (h : c < 64) : (conS S c).1.st = 2 ∧ (conS S c).2 = [] := by
  unfold conS inS digS nxtS
  dsimp only
  repeat' split
  all_goals first | omega | exact ⟨hst, rfl⟩
theorem step_csi {S : St} (hst : S.st = 2) {x : Int} (h : seqB x) : (stepS S x).1.st = 2 ∧ (stepS S x).2 = [] := by
  obtain ⟨h1, h2⟩ := h
  obtain ⟨r, rfl⟩ : ∃ r : Nat, x = (r : Int) := ⟨x.toNat, by omega⟩
  unfold stepS
  rw [ok_yes (by omega) (by omega) (by omega), if_pos rfl, Int.toNat_natCast, takS_ne (by omega), takN_def, if_neg (by omega), if_neg (by omega), if_neg (by omega), if_neg (by omega), if_neg (by omega), if_neg (by omega)]
  exact conS_low hst (by omega)
theorem step_ctl {S : St} (hst : S.st = 2) {p : Int} (h : ctlB p) : stepS S p = (S, [ctE p]) := by
  obtain ⟨h1, h2, h3, h4, h5⟩ := h
  obtain ⟨r, rfl⟩ : ∃ r : Nat, p = (r : Int) := ⟨p.toNat, by omega⟩
  unfold stepS
  rw [ok_yes (by omega) (by omega) (by omega), if_pos rfl, Int.toNat_natCast, takS_ne (by omega), takN_def, if_neg (by omega), if_neg (by omega), if_neg (by omega), if_pos (by omega)]
theorem step_q {S : St} (hst : S.st = 2) : (stepS S 113).1 = enS 0 := by
  unfold stepS
  rw [show okP 113 = true from by decide, if_pos rfl, show (113 : Int).toNat = 113 from rfl, takS_ne (by omega), takN_def, if_neg (by omega), if_neg (by omega), if_neg (by omega), if_neg (by omega), if_neg (by omega), if_neg (by omega)]
  unfold conS
  dsimp only
  rw [if_neg (by omega), if_pos (by omega)]
theorem run_csi : ∀ (l : List Int) {S : St}, S.st = 2 → (∀ x ∈ l, seqB x) → (runS S l).1.st = 2 ∧ (runS S l).2 = []
  | [], S, hst, _ => ⟨hst, rfl⟩
  | x :: l, S, hst, h => by
    obtain ⟨h1, h2⟩ := step_csi hst (h x (by simp))
    obtain ⟨h3, h4⟩ := run_csi l h1 (fun y hy => h y (by simp [hy]))
    rw [runS_cons, h2, h4]
    exact ⟨h3, rfl⟩
theorem run_open : runS (enS 0) [27, 91] = (enS 2, []) := by kernel_rfl
/-- a control within a sequence -/
theorem run_inside {l : List Int} (h : ∀ x ∈ l, seqB x) (i : Nat) {p : Int} (hp : ctlB p) :
    ∃ E, E.length ≤ 100 + l.length ∧ runS (enS 0) (([27, 91] ++ l) ++ [113]) = (enS 0, E) ∧ runS (enS 0) (([27, 91] ++ (l.take i ++ p :: l.drop i)) ++ [113]) = (enS 0, ctE p :: E) := by
  have ht : ∀ x ∈ l.take i, seqB x := fun x hx => h x (List.mem_of_mem_take hx)
  have hd : ∀ x ∈ l.drop i, seqB x := fun x hx => h x (List.mem_of_mem_drop hx)
  obtain ⟨a1, a2⟩ := run_csi (l.take i) (S := enS 2) rfl ht
  obtain ⟨b1, b2⟩ := run_csi (l.drop i) a1 hd
  have e1 : runS (enS 2) l = ((runS (runS (enS 2) (l.take i)).1 (l.drop i)).1, []) := by
    have := runS_app (enS 2) (l.take i) (l.drop i)
    rw [List.take_append_drop, a2, b2] at this
    exact this
  have e2 : runS (enS 2) (l.take i ++ p :: l.drop i) = ((runS (runS (enS 2) (l.take i)).1 (l.drop i)).1, [ctE p]) := by
    rw [runS_app, runS_cons, step_ctl a1 hp, a2, b2]
    rfl
  have e3 := step_q b1
  refine ⟨(stepS (runS (runS (enS 2) (l.take i)).1 (l.drop i)).1 113).2, ?_, ?_, ?_⟩
  · have := runS_len [113] (runS (runS (enS 2) (l.take i)).1 (l.drop i)).1
    rw [runS_cons] at this
    simp [runS] at this
    omega
  · rw [runS_snoc, runS_app, run_open]
    dsimp only
    rw [e1, e3]
    simp
  · rw [runS_snoc, runS_app, run_open]
    dsimp only
    rw [e2, e3]
    simp
/-- what is with, behind k points -/
def wi (l : List Int) (i : Nat) (p : Int) (k : Nat) : List Int := [27, 91] ++ (if i < k then l.take i ++ p :: (l.take k).drop i else l.take k)
theorem wi_zero (l : List Int) (i : Nat) (p : Int) : wi l i p 0 = [27, 91] := by unfold wi; rw [if_neg (by omega)]; rfl
theorem take_next {l : List Int} {k : Nat} (h : k < l.length) : l.take (k + 1) = l.take k ++ [l.getD k 0] := by
  rw [List.take_succ_eq_append_getElem h, List.getD_eq_getElem?_getD, List.getElem?_eq_getElem h]
  rfl
theorem wi_at {l : List Int} {k : Nat} (p : Int) (h : k < l.length) : wi l k p k ++ [p] ++ [l.getD k 0] = wi l k p (k + 1) := by
  unfold wi
  rw [if_neg (by omega), if_pos (by omega), take_next h, List.drop_append_of_le_length (by rw [List.length_take]; omega), List.drop_of_length_le (by rw [List.length_take]; omega)]
  simp
theorem wi_next {l : List Int} {i k : Nat} (p : Int) (h : k < l.length) (hne : k ≠ i) : wi l i p k ++ [l.getD k 0] = wi l i p (k + 1) := by
  unfold wi
  rcases Nat.lt_or_ge i k with h1 | h1
  · rw [if_pos h1, if_pos (by omega), take_next h, List.drop_append_of_le_length (by rw [List.length_take]; omega)]
    simp
  · rw [if_neg (by omega), if_neg (by omega), take_next h]
    simp
theorem wi_len {l : List Int} {i k : Nat} (p : Int) (hi : i ≤ l.length) (h : k ≤ l.length) : (wi l i p k).length ≤ k + 3 := by
  unfold wi
  split
  · simp [List.length_take, List.length_drop]; omega
  · simp [List.length_take]; omega
theorem wi_end {l : List Int} {i : Nat} (p : Int) (h : i < l.length) : wi l i p l.length = [27, 91] ++ (l.take i ++ p :: l.drop i) := by
  unfold wi
  rw [if_pos h, List.take_length]
theorem wi_last (l : List Int) (p : Int) : wi l l.length p l.length ++ [p] = [27, 91] ++ (l.take l.length ++ p :: l.drop l.length) := by
  unfold wi
  rw [if_neg (by omega), List.take_length, List.drop_length]
  simp
theorem low31 (n : Nat) (h : n < 256) : bits .and .u8 (n : Int) 31 = ((n % 32 : Nat) : Int) := by
  have h1 := and_u8 n 31 h (by decide)
  rw [show n &&& 31 = n % 32 from Nat.and_two_pow_sub_one_eq_mod n 5] at h1
  exact h1
section
variable {ops : Array Oper} {rest : List Oper} {o : Oper} {a : Act} {Q : Exit → Act → World → Prop}
/-- append of a literal's points -/
theorem appL {w0 W : World} (B : Nat) (s x : Operand) (hgd : o.guard = none) (ho : o.op = .call { callee := .builtin .append, args := #[s, x], argTypes := #[52, 52] })
    (v : Value) (xs l : List Int) (cs : Array Value) (hcs : cs = (l.map (Value.int .i32)).toArray) (hl0 : l.length ≤ 1000) (hs : a.eval s = v) (hx : a.eval x = .slice (some ⟨W.heap.size, 0, none⟩) l.length l.length)
    (HO : (Kd.int .i32).R tR W B (fun _ => True) v xs) (HB : Below B w0 W) (hB : B ≤ W.heap.size) (hl : xs.length + l.length ≤ 1000000)
    (h : ∀ v1 w1, (Kd.int .i32).R tR w1 B (fun _ => True) v1 (xs ++ l) → Below B w0 w1 → W.grownBy w1 v.ownBlock → (v1.ownBlock = v.ownBlock ∨ ∃ b, v1.ownBlock = some b ∧ W.heap.size ≤ b) → wpList Try.prog ops Q rest (a.put o.dst v1) w1) :
    wpList Try.prog ops Q (o :: rest) a (W.alloc (.cells cs tR)) := by
  subst hcs
  have hb : Below W.heap.size W (W.alloc (.cells (l.map (Value.int .i32)).toArray tR)) := (Below.refl _ _).alloc (Nat.le_refl _) _
  have hC := C_r (W := W.alloc (.cells (l.map (Value.int .i32)).toArray tR)) rfl hl0
  refine Kd.R_append_row (Value.int .i32) 0 (w0 := w0) B hgd s x 52 tR (.int .i32 0) 4 ho Try.underlying52 info_r rfl (by decide) v xs l (some ⟨W.heap.size, 0, none⟩) l.length l.length (fun _ => True) hs hx (fun _ _ => trivial) (Kd.R_below HO hb) hC (HB.trans (hb.mono hB)) (Nat.le_trans hB hb.size) (by omega) ?_
  intro v1 w1 h1 h2 h3 h4
  exact h v1 w1 h1 h2 (World.grownBy.trans (World.grownBy_alloc W _ _) h3) (h4.imp id (fun ⟨b, e, hb2⟩ => ⟨b, e, Nat.le_trans hb.size hb2⟩))
end
/-- rows of points, where a parser that has none of its own is fed -/
theorem row_stay0 {n0 b : Nat} {ok : Nat → Prop} {vp' vt' vr v : Value} {xs : List Int} {cs : Array Value} {w w1 : World} (h : (Kd.int .i32).R tR w n0 ok v xs) (ht : TR b nilS nilS nilS vp' vt' vr w w1) (hb : w.heap[b]? = some (.cells cs tP (0, 0))) : (Kd.int .i32).R tR w1 n0 ok v xs := by
  have h1 := Kd.R_bound h
  refine Kd.R_mono (Kd.R_step h1 (fun k hk _ => ?_)) (fun k hk => hk.1)
  obtain ⟨_, _, h4, q, hq, cells, hc⟩ := hk
  have hq2 : q = tR := by simpa [Kd.int, Kd.scalar] using hq
  refine ht.keep k h4 (fun e => ?_) (by simp [Value.ownBlock]) (by simp [Value.ownBlock]) (by simp [Value.ownBlock])
  rw [e, hb] at hc
  injection hc with hc
  injection hc with _ hc _
  subst hq2
  exact absurd hc (by decide)
/-- a parser, behind an append to a row of points that is none of its own -/
theorem pm_grown {n0 n9 b : Nat} {vp vt v : Value} {S : St} {xs : List Int} {w w1 : World} (h : PM n0 b vp vt nilS S [] w) (hv : (Kd.int .i32).R tR w n9 (fun _ => True) v xs) (hg : w.grownBy w1 v.ownBlock) (hA : Q.Ap vt v) : PM n0 b vp vt nilS S [] w1 :=
  ⟨blk_grown h.blk hg (Kd.R_ne hv h.blk (by decide)), Kd.R_over h.par hv (by intro q hq; simp [Kd.int, Kd.scalar] at hq; subst hq; decide) hg, Q.R_apart h.txt hA hg, Kd.R_nil _ _ _ _ _, h.ge, h.oks⟩
theorem Ap_nil (v : Value) : Q.Ap nilS v := fun k hk => by simp [Value.ownBlock] at hk
theorem Ap_new {w : World} {vt' v : Value} {n9 : Nat} {xs : List Int} (h : NO w nilS vt') (hv : (Kd.int .i32).R tR w n9 (fun _ => True) v xs) : Q.Ap vt' v := fun k hk hv2 => by
  rcases h k hk with h1 | h1
  · simp [Value.ownBlock] at h1
  · have := Kd.R_lt hv k hv2
    omega
/-- a row of points is no parser -/
theorem row_ne {w : World} {n9 b : Nat} {A : Option Addr} {n c : Nat} {xs : List Int} {cs : Array Value} (hv : (Kd.int .i32).R tR w n9 (fun _ => True) (.slice A n c) xs) (hb : w.heap[b]? = some (.cells cs tP (0, 0))) : ∀ ad, A = some ad → ad.block ≠ b := fun ad e e2 => by
  subst e
  obtain ⟨inner, hown⟩ := Kd.R_own hv
  exact Kd.R_ne hv hb (by decide) (by rw [← e2]; rfl)
theorem cutE_from (A : Option Addr) (n c : Nat) (h1 : 1 ≤ n) (hc : n ≤ c) : ∃ A' c', (∀ W : World, (Instr.slice 58 (.slice A n c) (some (.int .i64 1)) none none).run Try.prog W = .ok (.slice A' (n - 1) c') W) ∧
      ∀ (W : World) (l : List Ev), l.length = n → kE.C W A n l → kE.C W A' (n - 1) (l.drop 1) := by
  obtain ⟨i0, hi0, hzz⟩ := Option.map_eq_some_iff.1 info_E
  simp only [Prod.mk.injEq] at hzz
  refine ⟨_, _, fun W => (cut_from 58 67 .i64 Try.underlying58 hi0 7 hzz.2.1 A n c 1 (by omega) (by omega) W), ?_⟩
  intro W l hl hC
  have h := Kd.C_mid (xs := l) (lo := 1) (hi := n) (c := c) (by rw [hl]; exact hC) (by omega) (by omega) (by omega)
  have hlen : (l.drop 1).length = n - 1 := by rw [List.length_drop]; omega
  rw [List.take_of_length_le (by omega), hlen] at h
  exact h
end Go.Proofs.Ytbcononfgpfdbaa.An
