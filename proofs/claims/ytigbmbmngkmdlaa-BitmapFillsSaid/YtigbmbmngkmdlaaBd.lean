/-
  bitmap: Read.
-/
import Derived.Test.YtigbmbmngkmdlaaBc
namespace Go.Proofs.Ytigbmbmngkmdlaa.Bm
open Go.RowKit Go.Proofs.Ytigbmbmngkmdlaa.L Go.Proofs.Ytigbmbmngkmdlaa.Bt Go.Proofs.YtigbmbmngkmdlaaW.PrintWords

def okB (l : List Int) : Prop := ∀ x ∈ l, 0 ≤ x ∧ x < 256
/-- bytes put together, the least first -/
def asm : List Int → Nat
  | [] => 0
  | c :: r => c.toNat + 256 * asm r
theorem asm_lt : ∀ {l : List Int}, okB l → asm l < 2 ^ (8 * l.length)
  | [], _ => by simp [asm]
  | c :: r, h => by
    have h1 := h c (by simp)
    have h2 := asm_lt (l := r) (fun x hx => h x (by simp [hx]))
    simp only [asm, List.length_cons]
    rw [show 8 * (r.length + 1) = 8 * r.length + 8 from by omega, Nat.pow_add]
    omega
theorem asm_snoc : ∀ (l : List Int) (c : Int), asm (l ++ [c]) = asm l + 2 ^ (8 * l.length) * c.toNat
  | [], c => by simp [asm]
  | d :: r, c => by
    simp only [List.cons_append, asm, asm_snoc r c, List.length_cons]
    rw [show 8 * (r.length + 1) = 8 * r.length + 8 from by omega, Nat.pow_add]
    rw [Nat.mul_add, ← Nat.add_assoc]
    congr 1
    rw [← Nat.mul_assoc, Nat.mul_comm 256]
theorem or_asm {l : List Int} {c : Int} (h : okB l) : asm l ||| c.toNat * 2 ^ (8 * l.length) = asm (l ++ [c]) := by
  rw [asm_snoc, Nat.or_comm, Nat.mul_comm c.toNat, ← Nat.two_pow_add_eq_or_of_lt (asm_lt h), Nat.add_comm]
/-- the map that bytes are -/
def readR (b : List Int) : Int × Nat × Int := match b with
  | [] => (0, 0, 3)
  | n :: r => if decide (64 < n) then (0, 0, 3) else if decide ((r.length : Int) = (n + 7) / 8) then (if rgt n (asm r) then (n, asm r, 0) else (0, 0, 3)) else (0, 0, 3)

set_option maxHeartbeats 400000 in
set_option maxRecDepth 100000 in
theorem read_any (l : List Int) (A : Option Addr) (c : Nat) (w : World) (hC : (Kd.int .u8).C w A l.length l) (hc : l.length ≤ c) (hb : okB l) : Calls Try.prog 18 #[.slice A l.length c] w fun e w' => e = .returned (mapV (readR l)) ∧ Below w.heap.size w w' := by
  have hu := Try.underlying24
  obtain ⟨hmx, ho⟩ := C_open hC
  cases l with
  | nil =>
    go_enter Try.func18, Try.ntmps18
    go_wp2
    exact bodyPost_ret (v := mapV (0, 0, 3)) (by simp [results, Try.results18, go_sem, mapV]) rfl ⟨rfl, (Below.refl _ _).alloc (Nat.le_refl _) _⟩
  | cons n r =>
    have hn := hb n (by simp)
    rcases ho with e | ⟨bk, off, rfl, hbk, hcells⟩
    · cases e
    have k0 : ∀ w', Below w.heap.size w w' → w'.cell? ⟨bk, off, none⟩ = some (.int .u8 n) := fun w' h => pw_cell_below h (by simpa using hcells 0 (by simp))
    have kj : ∀ (w' : World) (j : Nat), Below w.heap.size w w' → j < r.length → w'.cell? ⟨bk, off + 1 + j, none⟩ = some (.int .u8 (r.getD j 0)) := fun w' j h hj => pw_cell_below h (by have := hcells (j + 1) (by simp; omega); simpa [Nat.add_assoc, Nat.add_comm 1 j] using this)
    have hw : At w.heap.size 0 0 (w.alloc (.cells #[.int .i64 0, .int .u64 0] 24)) := At.new w 0 0
    have hbel := (Below.refl w.heap.size w).alloc (Nat.le_refl _) (.cells #[.int .i64 0, .int .u64 0] 24)
    have k0a := k0 _ hbel
    have hlr : r.length + 1 ≤ 9223372036854775807 := by simpa using hmx
    by_cases h64 : 64 < n
    · have t1 : decide (64 < n) = true := by simpa using h64
      rw [show readR (n :: r) = (0, 0, 3) from by simp [readR, h64]]
      go_enter Try.func18, Try.ntmps18
      go_wp2
      exact bodyPost_ret (v := mapV (0, 0, 3)) (by simp [results, Try.results18, go_sem, mapV]) rfl ⟨rfl, hbel⟩
    have t1 : decide (64 < n) = false := by simpa using h64
    by_cases hlen : (r.length : Int) = (n + 7) / 8
    · obtain ⟨i0, hi0, hz0⟩ := info_of info_u8
      have hcut := cut_from (P := Try.prog) 25 5 .i64 Try.underlying25 hi0 1 hz0 (some ⟨bk, off, none⟩) (r.length + 1) c 1 (by decide) (by omega)
      obtain ⟨A', hA'⟩ : ∃ A' : Option Addr, (if c = (1 : Int).toNat then (some ⟨bk, off, none⟩ : Option Addr) else (some ⟨bk, off, none⟩ : Option Addr).map (·.add ((1 : Int).toNat * 1))) = A' := ⟨_, rfl⟩
      rw [hA', show r.length + 1 - (1 : Int).toNat = r.length from rfl] at hcut
      have hA : 0 < r.length → A' = some ⟨bk, off + 1, none⟩ := fun h => by
        rw [← hA', if_neg (by simp at hc ⊢; omega)]; rfl
      generalize c - (1 : Int).toNat = c' at hcut
      have HA := Lib.hid hA
      obtain ⟨wz, hwz⟩ : ∃ wz, wz = (w.alloc (.cells #[.int .i64 0, .int .u64 0] 24)).alloc (.cells #[.int .i64 n, .int .u64 0] 24) := ⟨_, rfl⟩
      have HB := Lib.hid (show Below w.heap.size w wz from by rw [hwz]; exact hbel.alloc (by simp) _)
      have HW := Lib.hid (show At w.heap.size 0 0 wz from by rw [hwz]; exact hw.below ((Below.refl _ _).alloc (Nat.le_refl _) _))
      have HM := Lib.hid (show At (w.heap.size + 1) n (0 : Nat) wz from by
        rw [hwz, show w.heap.size + 1 = (w.alloc (.cells #[.int .i64 0, .int .u64 0] 24)).heap.size from by simp]; exact At.new _ n 0)
      have HZ := Lib.hid (show wz.heap.size = w.heap.size + 2 from by rw [hwz]; simp)
      clear hA hA' hw
      go_enter Try.func18, Try.ntmps18
      go_wp2_with fail
      rw [← hwz]
      clear hwz k0a hbel hcut
      rw [← hlen]
      have hr8 : r.length ≤ 8 := by omega
      have HL := Lib.hid hlen
      have HR := Lib.hid (fun w => right_any n (asm r) w (Nat.lt_of_lt_of_le (asm_lt (fun x hx => hb x (by simp [hx]))) (Nat.pow_le_pow_right (by decide) (by omega))))
      have HOK := Lib.hid (show okB r from fun x hx => hb x (by simp [hx]))
      have KJ := Lib.hid kj
      clear hlen hlr hmx hb kj k0 hcells hc
      go_loopg [37] (r.length + 1) (fun g v37 w' => ∃ m : Nat, v37 = .int .i64 m ∧ Hid (m ≤ r.length ∧ r.length < g + m) ∧ Hid (At (w.heap.size + 1) n (asm (r.take m)) w') ∧ Hid (At w.heap.size 0 0 w') ∧ Hid (Below w.heap.size w w'))
      case atStart => exact ⟨0, rfl, Lib.hid ⟨by omega, by omega⟩, HM, HW, HB⟩
      case round =>
        obtain ⟨m, rfl, HJ, HM1, HW1, HBr⟩ := hrel
        cases gk with
        | zero => have := HJ.out; omega
        | succ g =>
          obtain ⟨hj1, hj2⟩ := HJ.out
          clear HJ HM HW HB
          by_cases hlt : m < r.length
          · obtain rfl := HA.out (by omega)
            have q0 := KJ.out wr m HBr.out hlt
            have hci := HOK.out (r.getD m 0) (by rw [List.getD_eq_getElem?_getD, List.getElem?_eq_getElem hlt]; exact List.getElem_mem hlt)
            have htk : r.take (m + 1) = r.take m ++ [r.getD m 0] := by
              rw [List.take_add_one, List.getD_eq_getElem?_getD, List.getElem?_eq_getElem hlt]; rfl
            have HTK := Lib.hid htk
            obtain ⟨ci, hcin⟩ := Int.eq_ofNat_of_zero_le hci.1
            rw [hcin] at q0 hci
            have HCI := Lib.hid hcin
            have q1 := HM1.out.c1
            have f1 := HM1.out.fr 1
            have s1 : IntKind.i64.wrap (8 * (m : Int)) = 8 * (m : Int) := by rw [IntKind.wrap_i64]; omega
            have s2 : IntKind.u64.wrap (ci : Int) = ci := wraps_u64 _ (by omega) (by omega)
            clear htk hcin
            go_wp2_with fail
            go_still_tail 9, (by kernel_rfl)
            change wpList _ _ _ _ _ wr.drew
            go_wp2
            have hval : bits .or .u64 ((asm (r.take m) : Nat) : Int) (IntKind.u64.wrap ((ci : Int) * 2 ^ (8 * m))) = ((asm (r.take (m + 1)) : Nat) : Int) := by
              have hokm : okB (r.take m) := fun x hx => HOK.out x (List.mem_of_mem_take hx)
              have hlm : (r.take m).length = m := by rw [List.length_take]; omega
              have h56 : 2 ^ (8 * m) ≤ 2 ^ 56 := Nat.pow_le_pow_right (by decide) (by omega)
              have hb1 : ci * 2 ^ (8 * m) < 2 ^ 64 := by
                have : ci * 2 ^ (8 * m) ≤ 255 * 2 ^ 56 := Nat.mul_le_mul (by omega) h56
                omega
              have hlt1 := asm_lt hokm
              rw [hlm] at hlt1
              rw [show ((ci : Int) * 2 ^ (8 * m)) = ((ci * 2 ^ (8 * m) : Nat) : Int) from by simp, wraps_u64 _ (by omega) (cast_lt hb1), or_u64 _ _ (by omega) hb1]
              have ho := or_asm (c := (ci : Int)) hokm
              rw [hlm, Int.toNat_natCast] at ho
              rw [ho, HTK.out, HCI.out]
            rw [hval]
            go_roundg g
            case measure => omega
            case rel => exact ⟨m + 1, by go_num, Lib.hid ⟨by omega, by omega⟩, Lib.hid (HM1.out.set _).drew, Lib.hid (HW1.out.far (by simp) _).drew, Lib.hid (HBr.out.setCell (Nat.le_succ _) _).drew⟩
          · have hmc : m = r.length := by omega
            subst hmc
            rw [List.take_length] at HM1
            have hrd : readR (n :: r) = if rgt n (asm r) then (n, asm r, 0) else (0, 0, 3) := by
              show (if decide (64 < n) then _ else _) = _
              rw [t1, if_neg (by simp), decide_eq_true HL.out, if_pos rfl]
            have q0 := HM1.out.c0
            have q1 := HM1.out.c1
            cases hg : rgt n (asm r)
            · rw [hg] at HR hrd
              have HRD := Lib.hid hrd
              clear hrd
              go_wp2_with fail
              refine (HR.out _).mono ?_
              rintro e w1 ⟨rfl, hb1⟩
              have HB1 := Lib.hid (stay1 HBr.out hb1)
              have HW2 := Lib.hid (HW1.out.below hb1)
              have r0 := HW2.out.c0
              have r1 := HW2.out.c1
              have g0 := HW2.out.fr 0
              have g1 := HW2.out.fr 1
              clear hb1 q0 q1
              go_wp2
              exact bodyPost_ret (v := mapV (0, 0, 3)) (by simp [results, Try.results18, go_sem, mapV, r0, r1]) rfl ⟨by rw [HRD.out]; rfl, (HB1.out.setCell (Nat.le_refl _) _).setCell (Nat.le_refl _) _⟩
            · rw [hg] at HR hrd
              have HRD := Lib.hid hrd
              clear hrd
              go_wp2_with fail
              refine (HR.out _).mono ?_
              rintro e w1 ⟨rfl, hb1⟩
              have HB1 := Lib.hid (stay1 HBr.out hb1)
              have HW2 := Lib.hid (HW1.out.below hb1)
              have HM2 := Lib.hid (HM1.out.below hb1)
              have r0 := HW2.out.c0
              have r1 := HW2.out.c1
              have g0 := HW2.out.fr 0
              have g1 := HW2.out.fr 1
              have m0 := HM2.out.c0
              have m1 := HM2.out.c1
              clear hb1 q0 q1
              go_wp2
              exact bodyPost_ret (v := mapV (n, asm r, 0)) (by simp [results, Try.results18, go_sem, mapV, r0, r1]) rfl ⟨by rw [HRD.out]; rfl, (HB1.out.setCell (Nat.le_refl _) _).setCell (Nat.le_refl _) _⟩
    · rw [show readR (n :: r) = (0, 0, 3) from by simp [readR, hlen]]
      have t2 : ((r.length : Int) != (n + 7) / 8) = true := by simpa using hlen
      go_enter Try.func18, Try.ntmps18
      go_wp2
      exact bodyPost_ret (v := mapV (0, 0, 3)) (by simp [results, Try.results18, go_sem, mapV]) rfl ⟨rfl, hbel⟩
end Go.Proofs.Ytigbmbmngkmdlaa.Bm
