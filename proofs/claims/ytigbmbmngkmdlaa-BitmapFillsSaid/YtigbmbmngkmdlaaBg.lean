/-
  bitmap, the reference: Of.
-/
import Derived.Test.YtigbmbmngkmdlaaBf
namespace Go.Proofs.Ytigbmbmngkmdlaa.Bm
open Go.RowKit Go.Proofs.Ytigbmbmngkmdlaa.L Go.Proofs.Ytigbmbmngkmdlaa.Bt Go.Proofs.YtigbmbmngkmdlaaW.PrintWords

theorem info_bool : (Try.prog.info? 4).map (fun i => (i.zero, i.size, i.bytes)) = some (some (.bool false), 1, 1) := by kernel_rfl
theorem C_openb {w : World} {A : Option Addr} {l : List Bool} (h : Kd.bool.C w A l.length l) :
    l.length ≤ 9223372036854775807 ∧ (l = [] ∨ ∃ b off, A = some ⟨b, off, none⟩ ∧ b < w.heap.size ∧ ∀ j, j < l.length → w.cell? ⟨b, off + j, none⟩ = some (.bool (l.getD j false))) := by
  have hr := Kd.reads_of_C (d := false) h
  refine ⟨hr.2.1, ?_⟩
  rcases Nat.eq_zero_or_pos l.length with h0 | h0
  · exact .inl (List.eq_nil_of_length_eq_zero h0)
  · right
    obtain ⟨ad, e, hc⟩ := hr.2.2 h0
    obtain ⟨b, off, spot⟩ := ad
    have hs : spot = none := by
      have := World.cell?_spot (hc 0 h0)
      simpa [Addr.add] using this
    subst hs
    have hc' : ∀ j, j < l.length → w.cell? ⟨b, off + j, none⟩ = some (.bool (l.getD j false)) := fun j hj => by
      have := hc j hj
      rwa [add_at] at this
    exact ⟨b, off, e, World.block_lt_of_cell? w ⟨b, off + 0, none⟩ (hc' 0 h0), hc'⟩
section
variable {P : Program} {ops : Array Oper} {rest : List Oper} {o : Oper} {a : Act} {Q : Exit → Act → World → Prop}
/-- append(s, y): one truth behind a row of one's own. -/
theorem appb {w0 W : World} (B : Nat) (s x : Operand) (t e : TypeId) (hgd : o.guard = none)
    (ho : o.op = .call { callee := .builtin .append, args := #[s, x], argTypes := #[t, t] }) (ht : P.underlying t = some (.slice e))
    (hinfo : (P.info? e).map (fun i => (i.zero, i.size, i.bytes)) = some (some (.bool false), 1, 1))
    (v : Value) (xs : List Bool) (y : Bool) (hs : a.eval s = v) (hx : a.eval x = .slice (some ⟨W.heap.size, 0, none⟩) 1 1)
    (HO : Kd.bool.R e W B (fun _ => True) v xs) (HB : Below B w0 W) (hB : B ≤ W.heap.size) (hl : xs.length + 1 ≤ 140737488355328)
    (h : ∀ v1 w1, Kd.bool.R e w1 B (fun _ => True) v1 (xs ++ [y]) → Below B w0 w1 → W.grownBy w1 v.ownBlock → wpList P ops Q rest (a.put o.dst v1) w1) :
    wpList P ops Q (o :: rest) a (W.alloc (.cells #[.bool y] e)) :=
  Kd.R_append Kd.bool B hgd s x t e (.bool false) 1 ho ht hinfo rfl (by show 0 < 1; decide) (by decide) v xs y [.bool y] (fun _ => True) (fun _ => False) hs hx rfl (fun _ h => h.elim) (fun _ _ => trivial) HO HB hB (by omega)
    (fun v1 w1 h1 h2 h3 _ => h v1 w1 h1 h2 h3)
end

/-- the truths of a number's first bits -/
def bitsL (x m : Nat) : List Bool := (List.range m).map x.testBit
theorem bitsL_len (x m : Nat) : (bitsL x m).length = m := by simp [bitsL]
theorem bitsL_succ (x m : Nat) : bitsL x (m + 1) = bitsL x m ++ [x.testBit m] := by simp [bitsL, List.range_succ]
def ofR (n : Int) (x : Nat) : List Bool × Bool := if decide (n < 0) then ([], false) else if decide (64 < n) then ([], false) else (bitsL x n.toNat, decide (x < 2 ^ n.toNat))

set_option maxHeartbeats 800000 in
set_option maxRecDepth 100000 in
theorem of_any (n : Int) (x : Nat) (w : World) (hx : x < 2 ^ 64) : Calls Try.prog 16 #[.int .i64 n, .int .u64 x] w fun e w' => ∃ v0 : Value, e = .returned (.tuple #[v0, .bool (ofR n x).2]) ∧ Kd.bool.R 4 w' w.heap.size (fun _ => True) v0 (ofR n x).1 ∧ Below w.heap.size w w' := by
  unfold ofR
  rcases three (!decide (n < 0)) (!decide (64 < n)) true with h1 | ⟨h1, h2⟩ | ⟨_, _, h⟩ | ⟨h1, h2, _⟩
  case inr.inr.inl => cases h
  case inr.inr.inr =>
    simp only [Bool.not_eq_true'] at h1 h2
    obtain ⟨c, rfl⟩ := Int.eq_ofNat_of_zero_le (by simpa using h1)
    have hc : c ≤ 64 := by have := of_decide_eq_false h2; omega
    simp only [h1, h2, Bool.false_eq_true, if_false, Int.toNat_natCast]
    have HX := Lib.hid hx
    clear hx
    go_enter Try.func16, Try.ntmps16
    go_wp2_with fail
    go_loopg [1, 6, 7] (c + 1) (fun g v1 v6 v7 w' => ∃ m : Nat, v7 = .int .i64 m ∧ v1 = .int .u64 ((x / 2 ^ m : Nat) : Int) ∧ Hid (m ≤ c ∧ c < g + m) ∧ Hid (Kd.bool.R 4 w' w.heap.size (fun _ => True) v6 (bitsL x m)) ∧ Hid (Below w.heap.size w w'))
    case atStart => exact ⟨0, rfl, by simp, Lib.hid ⟨by omega, by omega⟩, Lib.hid (Kd.R_nil _ _ _ _ _), Lib.hid (Below.refl _ _)⟩
    case round =>
      obtain ⟨m, rfl, rfl, HJ, HR, HBr⟩ := hrel
      cases gk with
      | zero => have := HJ.out; omega
      | succ g =>
        obtain ⟨hj1, hj2⟩ := HJ.out
        clear HJ
        by_cases hlt : m < c
        · have hbit := bit_one x m
          have hnext : x / 2 ^ (m + 1) = x / 2 ^ m / 2 := by rw [Nat.pow_succ, Nat.div_div_eq_div_mul]
          have hyl : x / 2 ^ m < 2 ^ 64 := Nat.lt_of_le_of_lt (Nat.div_le_self _ _) HX.out
          generalize x / 2 ^ m = y at hbit hnext hyl
          have HN := Lib.hid hnext
          have hy : (((y : Int) % 2) == 1) = x.testBit m := by simpa using hbit
          generalize hxb : x.testBit m = xb at hy
          have HXB := Lib.hid hxb
          clear hbit hnext hxb
          go_wp2_with (at_builtin; refine appb (w0 := w) w.heap.size (.tmp 19) (.tmp 23) 27 4 rfl rfl Try.underlying27 info_bool u6 (bitsL x m) xb rfl rfl HR.out HBr.out HBr.out.size (by rw [bitsL_len]; omega) ?_; intro v2 w3 ho2 hb2 _; (have HB3 := Lib.hid hb2); (have HR3 := Lib.hid ho2); clear ho2 hb2)
          go_roundg g
          case measure => omega
          case rel => exact ⟨m + 1, by go_num, by rw [HN.out]; simp, Lib.hid ⟨by omega, by omega⟩, Lib.hid (by rw [bitsL_succ, HXB.out]; exact HR3.out), HB3⟩
        · have hmc : m = c := by omega
          subst hmc
          have hz : (((x / 2 ^ m : Nat) : Int) == 0) = decide (x < 2 ^ m) := by
            have hp := Nat.two_pow_pos m
            by_cases h : x < 2 ^ m
            · simp [Nat.div_eq_of_lt h, h]
            · have h1 : 0 < x / 2 ^ m := Nat.div_pos (by omega) hp
              rw [decide_eq_false h]
              generalize x / 2 ^ m = y at h1
              simp; omega
          generalize ((x / 2 ^ m : Nat) : Int) = y at hz
          obtain ⟨R, hR⟩ : ∃ R, decide (x < 2 ^ m) = R := ⟨_, rfl⟩
          rw [hR] at hz
          have HRR := Lib.hid hR
          clear hR
          go_wp2
          go_ret2
          exact ⟨_, by rw [HRR.out]; rfl, HR.out, HBr.out⟩
  all_goals
    try simp only [Bool.not_eq_true', Bool.not_eq_false'] at h1 h2
    try simp only [Bool.not_eq_false'] at h1
    simp only [*, Bool.false_eq_true, if_false, if_true]
    go_enter Try.func16, Try.ntmps16
    go_wp2
    go_ret2
    exact ⟨_, rfl, Kd.R_nil _ _ _ _ _, Below.refl _ _⟩
end Go.Proofs.Ytigbmbmngkmdlaa.Bm
