/-
  sha: the document's turn, down and prime; rows of whole numbers of any kind, known whole.
-/
import Derived.Test.YtagfplcafeblbaaHp
import Derived.Test.YtagfplcafeblbaaHg
import Derived.Test.YtagfplcafeblbaaQe
import Derived.Test.YtagfplcafeblbaaNg
namespace Go.Proofs.Ytagfplcafeblbaa.H
open Go.RowKit Go.Proofs.Ytagfplcafeblbaa.L Go.Proofs.Ytagfplcafeblbaa.N Go.Proofs.YtagfplcafeblbaaW.PrintWords

theorem ownK {k : IntKind} {t : TypeId} {b B : Nat} {l : List Nat} {w : World} (h : AB k t b l w) (hB : B ≤ b) (hl : l.length ≤ maxLen) : (Kd.int k).R t w B (fun _ => True) (.slice (some ⟨b, 0, none⟩) l.length l.length) (nat l) := by
  have := R_of_blk (w := w) (b := b) (B := B) (k := k) (e := t) (l := nat l) (by
    rw [show (List.map (Value.int k) (nat l)).toArray = arr k l from by simp [arr, nat]]
    exact h) hB (by rw [nat_length]; exact hl)
  rwa [nat_length] at this
theorem rowK {k : IntKind} {t : TypeId} {b : Nat} {l : List Nat} {w : World} (h : AB k t b l w) (hl : l.length ≤ maxLen) : (Kd.int k).C w (some ⟨b, 0, none⟩) l.length (nat l) := by
  have := (Kd.R_reads' (ownK h (Nat.zero_le _) hl)).2.2
  rwa [nat_length] at this
theorem R_openK {k : IntKind} {e : TypeId} {l : List Nat} {w : World} {B : Nat} {v : Value} (h : (Kd.int k).R e w B (fun _ => True) v (nat l)) (hn : 0 < l.length) : ∃ g cap, v = .slice (some ⟨g, 0, none⟩) l.length cap ∧ l.length ≤ cap ∧ B ≤ g ∧ g < w.heap.size := by
  obtain ⟨g, cap, hv, hB, hg, _⟩ := Kd.R_form h (by rw [nat_length]; exact hn)
  rw [nat_length] at hv
  subst hv
  have := (Kd.R_reads' h).2.1
  exact ⟨g, cap, rfl, this, hB, hg⟩
theorem R_atK {k : IntKind} {e : TypeId} {l : List Nat} {w : World} {B g n cap : Nat} (h : (Kd.int k).R e w B (fun _ => True) (.slice (some ⟨g, 0, none⟩) n cap) (nat l)) {j : Nat} (hj : j < l.length) :
    w.cell? ⟨g, j, none⟩ = some (.int k ((l.getD j 0 : Nat) : Int)) ∧ w.frozen? ⟨g, j, none⟩ = false := by
  have hn := (Kd.R_reads' h).1
  rw [nat_length] at hn
  have := Kd.R_celln (enc := Value.int k) (0 : Int) h (j : Int) (by omega) (by omega)
  rw [Int.toNat_natCast] at this
  refine ⟨this.1.trans ?_, this.2⟩
  rw [← nat_get hj]
  simp [rdOf]
theorem R_wrK {k : IntKind} {e : TypeId} {l : List Nat} {w : World} {B g n cap : Nat} (h : (Kd.int k).R e w B (fun _ => True) (.slice (some ⟨g, 0, none⟩) n cap) (nat l)) (j x : Nat) :
    (Kd.int k).R e (w.setCell ⟨g, j, none⟩ (.int k ((x : Nat) : Int))) B (fun _ => True) (.slice (some ⟨g, 0, none⟩) n cap) (nat (l.set j x)) ∧ w.grownBy (w.setCell ⟨g, j, none⟩ (.int k ((x : Nat) : Int))) (some g) := by
  have := Kd.R_putg (enc := Value.int k) h (j : Int) ((x : Nat) : Int)
  rw [Int.toNat_natCast] at this
  refine ⟨?_, this.2⟩
  have h1 := this.1
  rwa [show (nat l).set j ((x : Nat) : Int) = nat (l.set j x) from by simp [nat]] at h1
/-- a row that is older than another one is of another block -/
theorem Ap_older {k k' : IntKind} {e e' : TypeId} {w w2 : World} {B B2 : Nat} {v u : Value} {xs ys : List Int} (h : (Kd.int k).R e w B (fun _ => True) v xs) (h2 : (Kd.int k').R e' w2 B2 (fun _ => True) u ys) (hB : w.heap.size ≤ B2) : Q.Ap v u := fun b hb hu => by
  have h1 := Kd.R_lt h b hb
  have h3 := Kd.R_base h2 b hu
  omega
section
variable {P : Program} {ops : Array Oper} {rest : List Oper} {o : Oper} {a : Act} {Q : Exit → Act → World → Prop}
/-- append(s, y), and where it lies -/
theorem app1a {w0 W : World} (k : IntKind) (B : Nat) (s x : Operand) (t e : TypeId) (bytes : Nat) (hgd : o.guard = none)
    (ho : o.op = .call { callee := .builtin .append, args := #[s, x], argTypes := #[t, t] }) (ht : P.underlying t = some (.slice e))
    (hinfo : (P.info? e).map (fun i => (i.zero, i.size, i.bytes)) = some (some (.int k 0), 1, bytes)) (hb0 : 0 < bytes)
    (v : Value) (xs : List Int) (y : Int) (hs : a.eval s = v) (hx : a.eval x = .slice (some ⟨W.heap.size, 0, none⟩) 1 1)
    (HO : (Kd.int k).R e W B (fun _ => True) v xs) (HB : Below B w0 W) (hB : B ≤ W.heap.size) (hl : (xs.length + 1) * bytes ≤ 140737488355328)
    (h : ∀ v1 w1, (Kd.int k).R e w1 B (fun _ => True) v1 (xs ++ [y]) → Below B w0 w1 → W.grownBy w1 v.ownBlock → (v1.ownBlock = v.ownBlock ∨ ∃ b, v1.ownBlock = some b ∧ W.heap.size ≤ b) → wpList P ops Q rest (a.put o.dst v1) w1) :
    wpList P ops Q (o :: rest) a (W.alloc (.cells #[.int k y] e)) :=
  Kd.R_append (Kd.int k) B hgd s x t e (.int k 0) bytes ho ht hinfo rfl (by show 0 < 1; decide) hb0 v xs y [.int k y] (fun _ => True) (fun _ => False) hs hx rfl (fun _ h => h.elim) (fun _ _ => trivial) HO HB hB hl h
end
theorem info_u64 : (Try.prog.info? 84).map (fun i => (i.zero, i.size, i.bytes)) = some (some (.int .u64 0), 1, 8) := by kernel_rfl
theorem info_w32 : (Try.prog.info? 33).map (fun i => (i.zero, i.size, i.bytes)) = some (some (.int .u32 0), 1, 4) := by kernel_rfl
theorem make_u64 (n : Nat) (N : Int) (hN : N = (n : Int)) (hn : n ≤ 1000000) (w : World) : (Instr.makeSlice 116 (.int .i64 N) (.int .i64 N)).run Try.prog w = .ok (.slice (some ⟨w.heap.size, 0, none⟩) n n) (w.alloc (.cells (arr .u64 (List.replicate n 0)) 84)) := by
  subst hN
  rw [← made_arr]
  exact run_make_row' 116 84 (.int .u64 0) 8 Try.underlying116 info_u64 rfl .i64 .i64 n (by omega) (by omega) w

set_option maxRecDepth 100000 in
theorem rturn_any (x n : Nat) (w : World) (hx : x < 4294967296) (hn : n ≤ 32) :
    Calls Try.prog 67 #[.int .u32 (x : Int), .int .u32 (n : Int)] w fun e w' => e = .returned (.int .u32 (rot x n : Nat)) ∧ w' = w := by
  have HX := Lib.hid hx
  have HN := Lib.hid hn
  have H0 := Lib.hid (rot0 x)
  have z1 : (n : Int) ≤ 32 := by omega
  clear hx hn
  go_enter Try.func67, Try.ntmps67
  go_wp2_with fail
  go_loopg [0, 5] (n + 1) (fun g v0 v5 w' => ∃ i y : Nat, v5 = .int .u32 (i : Int) ∧ v0 = .int .u32 (y : Int) ∧ Hid (rot x i = y) ∧ Hid (i ≤ n ∧ n < g + i) ∧ w' = w)
  case atStart => exact ⟨0, x, rfl, rfl, H0, Lib.hid ⟨by omega, by omega⟩, rfl⟩
  case round =>
    obtain ⟨i, y, rfl, rfl, HY, HJ, rfl⟩ := hrel
    cases gk with
    | zero => have := HJ.out; omega
    | succ k =>
      have hy : y < 4294967296 := HY.out ▸ rot_lt (by have := HJ.out; have := HN.out; omega) HX.out
      by_cases hlt : i < n
      · have HJ' := Lib.hid (show i < n ∧ n < (k + 1) + i from ⟨hlt, HJ.out.2⟩)
        obtain ⟨z, hz⟩ : ∃ z, turn1 y = z := ⟨_, rfl⟩
        have HZ := Lib.hid (show rot x (i + 1) = z from by rw [← turn1_rot (by have := HN.out; omega), HY.out, hz])
        have e0 : (y : Int) / 2 + (y : Int) % 2 * 2147483648 = (z : Int) := by rw [← hz]; unfold turn1; omega
        have hzl : z < 4294967296 := by rw [← hz]; unfold turn1; omega
        have e1 : IntKind.u32.wrap ((y : Int) % 2 * 2147483648) = (y : Int) % 2 * 2147483648 := wraps_u32 _ (by omega) (by omega)
        have e2 : IntKind.u32.wrap ((y : Int) / 2 + (y : Int) % 2 * 2147483648) = (z : Int) := by rw [e0]; exact wraps_u32 _ (by omega) (by omega)
        have z2 : (i : Int) < (n : Int) := by omega
        have z3 : (0 : Int) ≤ (i : Int) := by omega
        have z4 : (y : Int) < 4294967296 := by omega
        have z5 : (0 : Int) ≤ (y : Int) := by omega
        clear hz hlt HJ hy
        go_wp2_with fail
        go_roundg k
        case measure => have := HJ'.out; omega
        case rel => exact ⟨i + 1, z, by go_num, rfl, HZ, Lib.hid (by have := HJ'.out; omega), rfl⟩
      · obtain rfl : i = n := by have := HJ.out; omega
        clear hlt HJ hy
        have HY' := Lib.hid HY.out
        go_wp2_with fail
        go_ret
        exact ⟨by rw [HY'.out]; rfl, rfl⟩
set_option maxRecDepth 100000 in
theorem rdown_any (x n : Nat) (w : World) (hx : x < 4294967296) (hn : n ≤ 32) :
    Calls Try.prog 74 #[.int .u32 (x : Int), .int .u32 (n : Int)] w fun e w' => e = .returned (.int .u32 (x / 2 ^ n : Nat)) ∧ w' = w := by
  have HX := Lib.hid hx
  have HN := Lib.hid hn
  have H0 := Lib.hid (show x / 2 ^ 0 = x from by rw [Nat.pow_zero, Nat.div_one])
  have z1 : (n : Int) ≤ 32 := by omega
  clear hx hn
  go_enter Try.func74, Try.ntmps74
  go_wp2_with fail
  go_loopg [0, 5] (n + 1) (fun g v0 v5 w' => ∃ i y : Nat, v5 = .int .u32 (i : Int) ∧ v0 = .int .u32 (y : Int) ∧ Hid (x / 2 ^ i = y) ∧ Hid (i ≤ n ∧ n < g + i) ∧ w' = w)
  case atStart => exact ⟨0, x, rfl, rfl, H0, Lib.hid ⟨by omega, by omega⟩, rfl⟩
  case round =>
    obtain ⟨i, y, rfl, rfl, HY, HJ, rfl⟩ := hrel
    cases gk with
    | zero => have := HJ.out; omega
    | succ k =>
      have hy : y < 4294967296 := HY.out ▸ Nat.lt_of_le_of_lt (Nat.div_le_self _ _) HX.out
      by_cases hlt : i < n
      · have HJ' := Lib.hid (show i < n ∧ n < (k + 1) + i from ⟨hlt, HJ.out.2⟩)
        obtain ⟨z, hz⟩ : ∃ z, y / 2 = z := ⟨_, rfl⟩
        have HZ := Lib.hid (show x / 2 ^ (i + 1) = z from by rw [Nat.pow_succ, ← Nat.div_div_eq_div_mul, HY.out, hz])
        have e0 : (y : Int) / 2 = (z : Int) := by omega
        have z2 : (i : Int) < (n : Int) := by omega
        have z3 : (0 : Int) ≤ (i : Int) := by omega
        have z4 : (y : Int) < 4294967296 := by omega
        have z5 : (0 : Int) ≤ (y : Int) := by omega
        clear hz hlt HJ hy
        go_wp2_with fail
        go_roundg k
        case measure => have := HJ'.out; omega
        case rel => exact ⟨i + 1, z, by go_num, rfl, HZ, Lib.hid (by have := HJ'.out; omega), rfl⟩
      · obtain rfl : i = n := by have := HJ.out; omega
        clear hlt HJ hy
        have HY' := Lib.hid HY.out
        go_wp2_with fail
        go_ret
        exact ⟨by rw [HY'.out]; rfl, rfl⟩
set_option maxRecDepth 100000 in
theorem prime_any (n : Nat) (w : World) (hn : n ≤ 1000) :
    Calls Try.prog 56 #[.int .u64 (n : Int)] w fun e w' => e = .returned (.bool (primeN n)) ∧ w' = w := by
  have H2 := Lib.hid (noDiv_two n)
  have z1 : (n : Int) ≤ 1000 := by omega
  obtain ⟨r, hr⟩ : ∃ r, primeN n = r := ⟨_, rfl⟩
  have HR := Lib.hid hr
  rw [hr]
  clear hr hn
  go_enter Try.func56, Try.ntmps56
  go_wp2_with fail
  go_loopg [3] (n + 1) (fun g v3 w' => ∃ i : Nat, v3 = .int .u64 (i : Int) ∧ Hid (noDiv n i = true) ∧ Hid (2 ≤ i ∧ (i ≤ n ∨ i = 2) ∧ n + 2 < g + i) ∧ w' = w)
  case atStart => exact ⟨2, rfl, H2, Lib.hid ⟨by omega, by omega, by omega⟩, rfl⟩
  case round =>
    obtain ⟨i, rfl, HD, HJ, rfl⟩ := hrel
    clear H2
    have hi2 := HJ.out.1
    by_cases hlt : i < n
    · cases gk with
      | zero => have := HJ.out; omega
      | succ k =>
        have HJ' := Lib.hid (show 2 ≤ i ∧ i < n ∧ n + 2 < (k + 1) + i from ⟨hi2, hlt, HJ.out.2.2⟩)
        obtain ⟨m, hm⟩ : ∃ m, n % i = m := ⟨_, rfl⟩
        have e1 : (n : Int) % (i : Int) = (m : Int) := by rw [← hm]; omega
        have z2 : (i : Int) < (n : Int) := by omega
        have z3 : (2 : Int) ≤ (i : Int) := by omega
        have z4 : (0 : Int) ≤ (n : Int) := by omega
        by_cases h0 : m = 0
        · have HF := Lib.hid (show r = false from by rw [← HR.out]; exact noDiv_hit hi2 hlt (by rw [hm, h0]))
          have t1 : ((m : Int) == 0) = true := by rw [beq_iff_eq]; omega
          have t2 : (m == 0) = true := by rw [beq_iff_eq]; omega
          clear hm h0 hlt HJ hi2
          go_wp2_with fail
          go_ret
          exact ⟨by rw [HF.out]; rfl, rfl⟩
        · have HM := Lib.hid (noDiv_miss HD.out (by rw [hm]; exact h0))
          have t1 : ((m : Int) == 0) = false := by rw [beq_eq_false_iff_ne]; omega
          have t2 : (m == 0) = false := by rw [beq_eq_false_iff_ne]; omega
          clear hm h0 hlt HJ hi2
          go_wp2_with fail
          go_roundg k
          case measure => have := HJ'.out; omega
          case rel => exact ⟨i + 1, by go_num, HM, Lib.hid (by have := HJ'.out; omega), rfl⟩
    · have z2 : ¬ (i : Int) < (n : Int) := by omega
      have z3 : decide ((i : Int) < (n : Int)) = false := decide_eq_false z2
      have z4 : decide (i < n) = false := decide_eq_false hlt
      have hD : noDiv n n = true := noDiv_le (by omega) HD.out
      by_cases h1 : 1 < n
      · have HF := Lib.hid (show r = true from by rw [← HR.out, primeN, hD, decide_eq_true h1]; rfl)
        have t1 : decide ((1 : Int) < (n : Int)) = true := decide_eq_true (by omega)
        have t2 : decide (1 < n) = true := decide_eq_true h1
        clear h1 hD hlt HJ hi2
        go_wp2_with fail
        go_ret
        exact ⟨by rw [HF.out]; rfl, rfl⟩
      · have HF := Lib.hid (show r = false from by rw [← HR.out, primeN, hD, decide_eq_false h1]; rfl)
        have t1 : decide ((1 : Int) < (n : Int)) = false := decide_eq_false (by omega)
        have t2 : decide (1 < n) = false := decide_eq_false h1
        clear h1 hD hlt HJ hi2
        go_wp2_with fail
        go_ret
        exact ⟨by rw [HF.out]; rfl, rfl⟩
end Go.Proofs.Ytagfplcafeblbaa.H
