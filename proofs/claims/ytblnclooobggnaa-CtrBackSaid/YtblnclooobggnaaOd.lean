/-
  ctr: Blocks, alive.
-/
import Derived.Test.YtblnclooobggnaaOc
import Derived.MapKept
namespace Go.Proofs.Ytblnclooobggnaa.A
open Go.RowKit Go.Proofs.Ytblnclooobggnaa.L Go.Proofs.Ytblnclooobggnaa.N Go.Proofs.YtblnclooobggnaaW.PrintWords

theorem u8_inj {x y : Nat} (hx : x < 256) (hy : y < 256) (h : UInt8.ofNat (x : Int).toNat = UInt8.ofNat (y : Int).toNat) : x = y := by
  have := congrArg UInt8.toNat h
  simp only [UInt8.toNat_ofNat', Int.toNat_natCast] at this
  omega
theorem map_inj8 : ∀ {a b : List Nat}, (∀ x ∈ a, x < 256) → (∀ x ∈ b, x < 256) → (nat a).map (fun n => UInt8.ofNat n.toNat) = (nat b).map (fun n => UInt8.ofNat n.toNat) → a = b
  | [], [], _, _, _ => rfl
  | [], y :: b, _, _, h => by simp [nat] at h
  | x :: a, [], _, _, h => by simp [nat] at h
  | x :: a, y :: b, ha, hb, h => by
    simp only [nat, List.map_cons, List.cons.injEq] at h
    rw [u8_inj (ha x (by simp)) (hb y (by simp)) h.1, map_inj8 (fun z hz => ha z (by simp [hz])) (fun z hz => hb z (by simp [hz])) h.2]
theorem str_inj {a b : List Nat} (ha : ∀ x ∈ a, x < 256) (hb : ∀ x ∈ b, x < 256) (h : strOfNums (nat a) = strOfNums (nat b)) : a = b :=
  map_inj8 ha hb (by rw [← strOfNums_data, ← strOfNums_data, h])
theorem str_beq {a b : List Nat} (ha : ∀ x ∈ a, x < 256) (hb : ∀ x ∈ b, x < 256) : (strOfNums (nat a) == strOfNums (nat b)) = decide (a = b) := by
  by_cases h : a = b
  · subst h
    rw [decide_eq_true rfl]
    exact (Go.MapKept.bytes_beq _ _).2 rfl
  · rw [decide_eq_false h]
    cases hb' : (strOfNums (nat a) == strOfNums (nat b)) with
    | false => rfl
    | true => exact absurd (str_inj ha hb ((Go.MapKept.bytes_beq _ _).1 hb')) h
theorem strC {A : Option Addr} {c : Nat} {l : List Nat} {w : World} (h : (Kd.int .u8).C w A l.length (nat l)) : (convert 41 9 (.slice A l.length c)).run Try.prog w = .ok (.string (strOfNums (nat l))) w := by
  have h2 : (Kd.int .u8).C w A (nat l).length (nat l) := by rw [nat_length]; exact h
  have := Kd.C_string (P := Try.prog) (src := 41) (dst := 9) (e := 5) (c := c) Try.underlying41 Try.underlying5 Try.underlying9 h2
  rwa [nat_length] at this
set_option maxRecDepth 100000 in
set_option maxHeartbeats 800000 in
theorem blocks_any (p c tn : Nat) (key : List Nat) (w : World) (h : ST p c key tn w) : Calls Try.prog 41 #[.pointer (some ⟨p, 0, none⟩)] w fun e w' => e = .returned (.int .i64 (tn : Int)) ∧ w' = w := by
  have hc := h.cell
  have HS := Lib.hid h
  clear h
  go_enter Try.func41, Try.ntmps41
  go_wp2_with (first
    | (go_at_call 42; refine (cipher_any p c w HS.out.cell).mono ?_; rintro e w7 ⟨rfl, hw7⟩; (rw [hw7]); clear hw7 w7)
    | (go_at_call 22; refine (turns_at c (tn : Int) w HS.out.cu.turns).mono ?_; rintro e w7 ⟨rfl, hw7⟩; (rw [hw7]); clear hw7 w7))
  go_ret
  exact ⟨rfl, rfl⟩
def KK : List Nat := [1, 0, 0, 0, 0, 0, 0, 0, 0, 0, 0, 0, 0, 0, 0, 0]
def TX : List Nat := [115, 111, 109, 101, 32, 116, 101, 120, 116, 32, 111, 102, 32, 109, 111, 114, 101, 32, 116, 104, 97, 110, 32, 97, 32, 98, 108, 111, 99, 107]
theorem hide_ne : hideN KK 5 TX ≠ TX := by
  have h : sb KK 5 0 ≠ 0 := by decide +kernel
  intro e
  have h1 := hideN_get KK 5 TX (j := 0) (by decide)
  rw [e, show TX.getD 0 0 = 115 from rfl] at h1
  have h2 : 115 ^^^ 115 = 115 ^^^ (115 ^^^ sb KK 5 0) := by rw [← h1]
  rw [Nat.xor_self, ← Nat.xor_assoc, Nat.xor_self, Nat.zero_xor] at h2
  exact h h2.symm
theorem cv_at (w : World) (C : Array Value) (n c g : Nat) (hg : g = w.heap.size) :
    (convert 41 41 (.slice (some ⟨g, 0, none⟩) n c)).run Try.prog (w.alloc (.cells C 5)) = .ok (.slice (some ⟨g, 0, none⟩) n c) (w.alloc (.cells C 5 (C.size, C.size + 1))) := by
  subst hg; exact Lib.run_convert_bytes_const w _ _ C n c Try.underlying41 Try.underlying5
set_option maxRecDepth 100000 in
set_option maxHeartbeats 3200000 in
theorem alive06_any (w : World) : Calls Try.prog 23 #[] w fun e w' => e = .returned (.bool true) ∧ Below w.heap.size w w' := by
  go_enter Try.func23, Try.ntmps23
  go_upto_region 2 with (go_at_call 24; refine (newctr_any KK w (by decide)).mono ?_; rintro e w1 ⟨p, c, rfl, hc0, hp0, hst, hb1⟩; (have HC0 := Lib.hid hc0); (have HST := Lib.hid hst); (have HB1 := Lib.hid hb1); clear hc0 hp0 hst hb1)
  go_wp2_with fail
  rw [cv_at]
  case hg => simp
  go_wp2_with fail
  refine calls_at fun W hW => ?_
  have hcl := C_lit TX w1 (30, 31) (by decide)
  have hC : (Kd.int .u8).C W (some ⟨w1.heap.size, 0, none⟩) TX.length (nat TX) := by rw [hW]; exact hcl
  have hbW : Below w1.heap.size w1 W := by rw [hW]; exact (Below.refl _ _).alloc (Nat.le_refl _) _
  have HST2 := Lib.hid (HST.out.below hbW)
  have HB2 := Lib.hid (HB1.out.trans (hbW.mono HB1.out.size))
  have hq := hide_any p c 0 5 KK TX (some ⟨w1.heap.size, 0, none⟩) 30 W HST2.out (by decide) (by decide) (by decide) (by decide) hC (fun _ ad e => by injection e with e; subst e; have := HST.out.cu.lt; show w1.heap.size ≠ c; omega) (by decide) (by decide)
  have HQ := Lib.hid hq
  have HLc := Lib.hid (show c < W.heap.size from HST2.out.cu.lt)
  clear hW hcl hC hbW hq HST HB1
  refine HQ.out.mono ?_
  rintro e w3 ⟨v, rfl, hrv, hcu, hg⟩
  have HST3 := Lib.hid (HST2.out.turned hg hcu)
  have HB3 := Lib.hid (below_grown HB2.out HB2.out.size hg HC0.out)
  obtain ⟨A2, c2, rfl, hc2, hC2, hA2⟩ := hrv.open
  have hl := hideN_len KK 5 TX
  obtain ⟨H, hH⟩ : ∃ H, hideN KK 5 TX = H := ⟨_, rfl⟩
  have hne := hide_ne
  have hlt := hideN_lt (key := KK) (by decide) 5 (b := TX) (by decide)
  have hbk := hideN_back KK 5 TX
  rw [hH] at hl hne hlt hbk hC2 hc2 ⊢
  have HCH := Lib.hid hC2
  have hq := hide_any p c (0 + cntN 0 TX.length) 5 KK H A2 c2 w3 HST3.out (by decide) (by decide) (by decide) (by decide) hC2 (fun _ ad e => by have := hA2 ad e; have := HLc.out; omega) (by rw [hl]; decide) hlt
  rw [hbk] at hq
  have HQ := Lib.hid hq
  have HLt := Lib.hid (show H.length = 30 from hl)
  have HNe := Lib.hid hne
  have HH8 := Lib.hid hlt
  have HAp := Lib.hid (fun ad (e : A2 = some ad) => show ad.block ≠ c from by have := hA2 ad e; have := HLc.out; omega)
  clear hrv hcu hg hc2 hC2 hA2 hl hH hne hlt hbk hq HB2 HST2
  go_wp2_with fail
  rw [← HLt.out]
  refine HQ.out.mono ?_
  rintro e w5 ⟨v, rfl, hrv, hcu, hg⟩
  have HST5 := Lib.hid (HST3.out.turned hg hcu)
  have HB5 := Lib.hid (below_grown HB3.out HB3.out.size hg HC0.out)
  obtain ⟨A4, c4, rfl, hc4, hC4, hA4⟩ := hrv.open
  have HC4 := Lib.hid hC4
  have HCH5 := Lib.hid (C_move HCH.out (fun ad e => hg.block _ (by
    obtain ⟨b9, o9, e9, h9, _⟩ := B_at HCH.out (by rw [HLt.out]; decide)
    rw [e9] at e
    injection e with e
    subst e
    exact h9) (fun h => HAp.out ad e (by injection h))))
  clear hrv hcu hg hc4 hC4 hA4 HQ HST3 HB3 HCH
  have HST6 := Lib.hid (show ST p c KK 4 w5 from by have h := HST5.out; rw [HLt.out] at h; exact h)
  have q1 := strC (c := c4) HC4.out
  have q2 := strC (c := c2) HCH5.out
  have hn1 : ¬ (strOfNums (nat H)).toList = ([115, 111, 109, 101, 32, 116, 101, 120, 116, 32, 111, 102, 32, 109, 111, 114, 101, 32, 116, 104, 97, 110, 32, 97, 32, 98, 108, 111, 99, 107] : List UInt8) := fun e => by
    rw [ByteArray.toList_eq, strOfNums_data] at e
    exact HNe.out (map_inj8 HH8.out (by decide) (e.trans (show _ = (nat TX).map (fun n => UInt8.ofNat n.toNat) from rfl)))
  have hn2 : ((strOfNums (nat H)).toList == ([115, 111, 109, 101, 32, 116, 101, 120, 116, 32, 111, 102, 32, 109, 111, 114, 101, 32, 116, 104, 97, 110, 32, 97, 32, 98, 108, 111, 99, 107] : List UInt8)) = false := beq_eq_false_iff_ne.2 hn1
  rw [show strOfNums (nat TX) = ⟨#[115, 111, 109, 101, 32, 116, 101, 120, 116, 32, 111, 102, 32, 109, 111, 114, 101, 32, 116, 104, 97, 110, 32, 97, 32, 98, 108, 111, 99, 107]⟩ from rfl] at q1
  have q3 : TX.length = 30 := rfl
  rw [q3] at q1
  go_wp2_with fail
  refine (blocks_any p c 4 KK w5 HST6.out).mono ?_
  rintro e w7 ⟨rfl, hw7⟩
  rw [hw7]
  clear hw7 w7
  go_wp2_with fail
  go_ret
  exact ⟨rfl, HB5.out⟩
end Go.Proofs.Ytblnclooobggnaa.A
