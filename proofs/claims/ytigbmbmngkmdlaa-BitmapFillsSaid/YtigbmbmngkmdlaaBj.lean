/-
  bitmap, the reference: Read.
-/
import Derived.Test.YtigbmbmngkmdlaaBi
namespace Go.Proofs.Ytigbmbmngkmdlaa.Bm
open Go.RowKit Go.Proofs.Ytigbmbmngkmdlaa.L Go.Proofs.Ytigbmbmngkmdlaa.Bt Go.Proofs.YtigbmbmngkmdlaaW.PrintWords

theorem asm_byte : ∀ {r : List Int}, okB r → ∀ j, j < r.length → ((asm r / 2 ^ (8 * j) % 256 : Nat) : Int) = r.getD j 0
  | [], _, j, h => by simp at h
  | c :: r, hb, 0, _ => by
    have hc := hb c (by simp)
    simp only [asm, Nat.mul_zero, Nat.pow_zero, Nat.div_one, List.getD_cons_zero]
    omega
  | c :: r, hb, j + 1, h => by
    have hc := hb c (by simp)
    have hd : (asm (c :: r)) / 2 ^ (8 * (j + 1)) = asm r / 2 ^ (8 * j) := by
      rw [show 8 * (j + 1) = 8 + 8 * j from by omega, Nat.pow_add, ← Nat.div_div_eq_div_mul]
      congr 1
      simp only [asm]
      omega
    rw [hd, asm_byte (fun x hx => hb x (by simp [hx])) j (by simpa using h)]
    simp
theorem byte_bit (X j k : Nat) (hk : k < 8) : (((X / 2 ^ (8 * j) % 256 / 2 ^ k % 2 : Nat) : Int) == 1) = X.testBit (8 * j + k) := by
  rw [bit_one, show 256 = 2 ^ 8 from rfl, Nat.testBit_mod_two_pow, Nat.testBit_div_two_pow, Nat.add_comm]
  simp [hk]
/-- the truths that bytes tell; do they tell them in the one way? -/
def rreadR : List Int → List Bool × Bool
  | [] => ([], false)
  | n :: r => if decide (64 < n) then ([], false) else if decide (r.length < (n.toNat + 7) / 8) then ([], false) else (bitsL (asm r) n.toNat, (strOfNums (putM n.toNat (asm r % 2 ^ n.toNat))).toList == (strOfNums (n :: r)).toList)

set_option maxHeartbeats 1600000 in
set_option maxRecDepth 100000 in
theorem rread_any (l : List Int) (A : Option Addr) (c : Nat) (w : World) (hC : (Kd.int .u8).C w A l.length l) (hb : okB l) : Calls Try.prog 19 #[.slice A l.length c] w fun e w' => ∃ v0 : Value, e = .returned (.tuple #[v0, .bool (rreadR l).2]) ∧ Kd.bool.R 4 w' w.heap.size (fun _ => True) v0 (rreadR l).1 ∧ Below w.heap.size w w' := by
  obtain ⟨hmx, ho⟩ := C_open hC
  have HC := Lib.hid hC
  cases l with
  | nil =>
    go_enter Try.func19, Try.ntmps19
    go_wp2
    go_ret2
    exact ⟨_, rfl, Kd.R_nil _ _ _ _ _, Below.refl _ _⟩
  | cons n r =>
    have hn := hb n (by simp)
    obtain ⟨nn, rfl⟩ := Int.eq_ofNat_of_zero_le hn.1
    rcases ho with e | ⟨bk, off, rfl, hbk, hcells⟩
    · cases e
    have k0 : ∀ w', Below w.heap.size w w' → w'.cell? ⟨bk, off, none⟩ = some (.int .u8 nn) := fun w' h => pw_cell_below h (by simpa using hcells 0 (by simp))
    have kj : ∀ (w' : World) (j : Nat), Below w.heap.size w w' → j < r.length → w'.cell? ⟨bk, off + (1 + j), none⟩ = some (.int .u8 (r.getD j 0)) := fun w' j h hj => pw_cell_below h (by have := hcells (j + 1) (by simp; omega); simpa [Nat.add_comm 1 j] using this)
    have k0a := k0 _ (Below.refl _ _)
    by_cases h64 : 64 < (nn : Int)
    · have t1 : decide (64 < (nn : Int)) = true := by simpa using h64
      rw [show rreadR ((nn : Int) :: r) = ([], false) from by simp [rreadR, h64]]
      go_enter Try.func19, Try.ntmps19
      go_wp2
      go_ret2
      exact ⟨_, rfl, Kd.R_nil _ _ _ _ _, Below.refl _ _⟩
    have t1 : decide (64 < (nn : Int)) = false := by simpa using h64
    have hlr : r.length + 1 ≤ 9223372036854775807 := by simpa using hmx
    have hrr : rreadR ((nn : Int) :: r) = if decide (r.length < (nn + 7) / 8) then ([], false) else (bitsL (asm r) nn, (strOfNums (putM nn (asm r % 2 ^ nn))).toList == (strOfNums ((nn : Int) :: r)).toList) := by
      show (if decide (64 < (nn : Int)) then _ else _) = _
      rw [t1, if_neg (by simp), Int.toNat_natCast]
    obtain ⟨RR, hRR⟩ : ∃ RR, rreadR ((nn : Int) :: r) = RR := ⟨_, rfl⟩
    rw [hRR] at hrr ⊢
    have HRR := Lib.hid hrr
    have HOK := Lib.hid (show okB r from fun x hx => hb x (by simp [hx]))
    have hn64 : nn ≤ 64 := by omega
    have K0 := Lib.hid k0
    have KJ := Lib.hid kj
    obtain ⟨X, hX⟩ : ∃ X, asm r = X := ⟨_, rfl⟩
    have HX := Lib.hid hX
    clear hRR hrr kj k0 hcells hb hn h64 hX hC hmx
    go_enter Try.func19, Try.ntmps19
    go_wp2_with fail
    clear k0a
    go_loopg [4, 5] (nn + 1) (fun g v4 v5 w' => ∃ m : Nat, v5 = .int .i64 m ∧ Hid (m ≤ nn ∧ nn < g + m ∧ (m + 7) / 8 ≤ r.length) ∧ Hid (Kd.bool.R 4 w' w.heap.size (fun _ => True) v4 (bitsL X m)) ∧ Hid (Below w.heap.size w w'))
    case atStart => exact ⟨0, rfl, Lib.hid ⟨by omega, by omega, by omega⟩, Lib.hid (Kd.R_nil _ _ _ _ _), Lib.hid (Below.refl _ _)⟩
    case round =>
      obtain ⟨m, rfl, HJ, HR, HBr⟩ := hrel
      cases gk with
      | zero => have := HJ.out; omega
      | succ g =>
        obtain ⟨hj1, hj2, hj3⟩ := HJ.out
        clear HJ
        have k0a := K0.out wr HBr.out
        by_cases hlt : m < nn
        · by_cases hsh : r.length ≤ m / 8
          · have hR0 : RR = ([], false) := by rw [HRR.out, decide_eq_true (show r.length < (nn + 7) / 8 by omega)]; rfl
            subst hR0
            have t3 : decide ((r.length : Int) + 1 ≤ 1 + (m : Int) / 8) = true := by simp; omega
            go_wp2
            go_ret2
            exact ⟨_, rfl, Kd.R_nil _ _ _ _ _, HBr.out⟩
          · have t3 : decide ((r.length : Int) + 1 ≤ 1 + (m : Int) / 8) = false := by simp; omega
            have q0 := KJ.out wr (m / 8) HBr.out (by omega)
            rw [← asm_byte HOK.out (m / 8) (by omega), HX.out] at q0
            have hbb := fun k hk => byte_bit X (m / 8) k hk
            have hy : X / 2 ^ (8 * (m / 8)) % 256 < 256 := Nat.mod_lt _ (by decide)
            generalize X / 2 ^ (8 * (m / 8)) % 256 = y at q0 hbb hy
            have hmm := hbb (m % 8) (by omega)
            rw [show 8 * (m / 8) + m % 8 = m from by omega] at hmm
            have HMM := Lib.hid hmm
            clear hbb hmm
            go_wp2_with fail
            go_loopg [6, 7] (m % 8 + 1) (fun g v6 v7 w' => ∃ t : Nat, v7 = .int .i64 t ∧ v6 = .int .u8 ((y / 2 ^ t : Nat) : Int) ∧ Hid (t ≤ m % 8 ∧ m % 8 < g + t) ∧ Hid (w' = wr))
            case atStart => exact ⟨0, rfl, by simp, Lib.hid ⟨by omega, by omega⟩, Lib.hid rfl⟩
            case round =>
              obtain ⟨t, rfl, rfl, HT, HE⟩ := hrel
              have hE := HE.out
              subst hE
              clear HE
              cases gk with
              | zero => have := HT.out; omega
              | succ g2 =>
                obtain ⟨ht1, ht2⟩ := HT.out
                clear HT
                by_cases hte : t < m % 8
                · have t4 : decide ((t : Int) < (m : Int) % 8) = true := by simp; omega
                  have hnext : y / 2 ^ (t + 1) = y / 2 ^ t / 2 := by rw [Nat.pow_succ, Nat.div_div_eq_div_mul]
                  have hz : y / 2 ^ t < 256 := Nat.lt_of_le_of_lt (Nat.div_le_self _ _) hy
                  generalize y / 2 ^ t = z at hnext hz
                  have HN := Lib.hid hnext
                  clear hnext
                  go_wp2_with fail
                  go_roundg g2
                  case measure => omega
                  case rel => exact ⟨t + 1, by go_num, by rw [HN.out]; simp, Lib.hid ⟨by omega, by omega⟩, Lib.hid rfl⟩
                · have hte' : t = m % 8 := by omega
                  subst hte'
                  have t4 : decide (((m % 8 : Nat) : Int) < (m : Int) % 8) = false := by simp
                  have hmm := HMM.out
                  have hz : y / 2 ^ (m % 8) < 256 := Nat.lt_of_le_of_lt (Nat.div_le_self _ _) hy
                  generalize y / 2 ^ (m % 8) = z at hmm hz
                  have hmm' : (((z : Int) % 2) == 1) = X.testBit m := by simpa using hmm
                  obtain ⟨xb, hxb⟩ : ∃ xb, X.testBit m = xb := ⟨_, rfl⟩
                  rw [hxb] at hmm'
                  have HXB := Lib.hid hxb
                  clear hmm hxb ht1 ht2 hte
                  go_wp2_with (at_builtin; refine appb (w0 := w) w.heap.size (.tmp 45) (.tmp 49) 27 4 rfl rfl Try.underlying27 info_bool u4 (bitsL X m) xb rfl rfl HR.out HBr.out HBr.out.size (by rw [bitsL_len]; omega) ?_; intro v2 w3 ho2 hb2 _; (have HB3 := Lib.hid hb2); (have HR3 := Lib.hid ho2); clear ho2 hb2)
                  go_roundg g
                  case measure => omega
                  case rel => exact ⟨m + 1, by go_num, Lib.hid ⟨by omega, by omega, by omega⟩, Lib.hid (by rw [bitsL_succ, HXB.out]; exact HR3.out), HB3⟩
        · have hmc : m = nn := by omega
          subst hmc
          have hR1 : RR = (bitsL X m, (strOfNums (putM m (X % 2 ^ m))).toList == (strOfNums ((m : Int) :: r)).toList) := by
            rw [HRR.out, decide_eq_false (show ¬ r.length < (m + 7) / 8 by omega), HX.out]; rfl
          obtain ⟨xs, hxs⟩ : ∃ xs, bitsL X m = xs := ⟨_, rfl⟩
          have hl : xs.length = m := by rw [← hxs, bitsL_len]
          have hnum : putM xs.length (num xs) = putM m (X % 2 ^ m) := by rw [hl, ← hxs, num_bits]
          rw [hxs] at HR hR1
          obtain ⟨A4, c4, rfl, _, hC4⟩ := Kd.R_reads HR.out
          have hW := fun w' h => rwrite_any xs A4 c4 w' (Kd.C_below hC4 h) (by omega)
          rw [hnum] at hW
          obtain ⟨ps, hps⟩ : ∃ ps, putM m (X % 2 ^ m) = ps := ⟨_, rfl⟩
          rw [hps] at hW hR1
          obtain ⟨bs, hbs⟩ : ∃ bs, (m : Int) :: r = bs := ⟨_, rfl⟩
          rw [hbs] at hR1
          have HW := Lib.hid hW
          have HR1 := Lib.hid hR1
          have hcb : ∀ n : Q.GW wr.drew wr.heap.size none, (convert 25 9 (.slice (some ⟨bk, off, none⟩) (r.length + 1) c)).run Try.prog n.w = .ok (.string (strOfNums bs)) n.w := fun n => by
            have := Kd.C_below HC.out (stay1 HBr.out (stay1 (stay0 wr) n.below))
            rw [hbs] at this
            have hlb : bs.length = r.length + 1 := by rw [← hbs]; rfl
            rw [hlb] at this
            exact Kd.C_string Try.underlying25 Try.underlying5 Try.underlying9 this
          clear hC4 hW hR1 hnum hps hbs hxs HX HRR KJ K0 HOK hj1 hj2 hj3 hl
          go_wp2_with fail
          refine Q.wp_region_segs none [([0, 1, 4, 5], some 2), ([3, 6, 7, 8], none)] (by kernel_rfl) (by kernel_rfl) (by kernel_rfl) (by kernel_rfl) ?_
          dsimp only [Q.wpSegs, Q.picks, Q.pick]
          repeat (go_big_quiet_step (fail))
          refine wpQuiet_nil ?_
          go_wp2_with (go_at_call 21; refine (HW.out _ (Below.refl _ _).drew).mono ?_; rintro e w3 ⟨v3, rfl, ho3, hb3⟩; obtain ⟨A3, c3, rfl, _, hC3⟩ := Kd.R_reads ho3; (have HC3 := Lib.hid hC3); (have HB3 := Lib.hid hb3); clear ho3 hC3 hb3)
          refine Q.ev_done HB3.out (Nat.le_refl _) ?_
          have hcv : ∀ n : Q.GW w3 w3.heap.size none, (convert 25 9 (.slice A3 ps.length c3)).run Try.prog n.w = .ok (.string (strOfNums ps)) n.w := fun n => Kd.C_string Try.underlying25 Try.underlying5 Try.underlying9 (Kd.C_below HC3.out n.below)
          clear hcb
          repeat (go_big_quiet_step (fail))
          refine wpQuiet_nil ?_
          refine NoPanic.normal ?_
          go_wp2
          go_ret2
          exact ⟨_, by rw [HR1.out]; rfl, by rw [HR1.out]; exact Kd.R_below (Kd.R_drew HR.out) HB3.out, stay1 HBr.out.drew HB3.out⟩
end Go.Proofs.Ytigbmbmngkmdlaa.Bm
