/-
  Parts of one proof, joined: seal: what must come of fixed calls. | seal: a datagram whose mark is turned. | Strings of bytes, told by lists of numbers.
-/
import Derived.Test.YtblnclooobggnaaZB0
import Derived.Test.YtblnclooobggnaaZB1
import Derived.Test.YtblnclooobggnaaZB2
import Derived.Test.YtblnclooobggnaaZB3
import Derived.Test.YtblnclooobggnaaZB4

namespace Go.Proofs.Ytblnclooobggnaa.Se
open Go.RowKit Go.Proofs.Ytblnclooobggnaa.L Go.Proofs.Ytblnclooobggnaa.N Go.Proofs.Ytblnclooobggnaa.A Go.Proofs.Ytblnclooobggnaa.Mc Go.Proofs.YtblnclooobggnaaW.PrintWords

theorem drvN_lt (secret lab : List Nat) (i : Nat) : ∀ x ∈ drvN secret lab i, x < 256 := fun x hx => markN_lt _ _ x (List.mem_of_mem_take hx)
theorem SE.gr {g p c g2 q2 side nx tn : Nat} {kh km : List Nat} {w w1 : World} (h : SE g p c side kh km nx tn w) (hg : GR g2 q2 w w1) (h1 : g ≠ g2 ∧ g ≠ q2) (h2 : p ≠ g2 ∧ p ≠ q2) (h3 : c ≠ g2 ∧ c ≠ q2) : SE g p c side kh km nx tn w1 :=
  ⟨(hg.keep g h.lt h1.1 h1.2).trans h.blk, ⟨(hg.keep p h.st.lt h2.1 h2.2).trans h.st.sp, h.st.cu.keep (hg.keep c h.st.cu.lt h3.1 h3.2)⟩, h.len⟩
theorem SE.ord {g p c side nx tn : Nat} {kh km : List Nat} {w : World} (h : SE g p c side kh km nx tn w) : g < w.heap.size ∧ p < w.heap.size ∧ c < w.heap.size := ⟨h.lt, h.st.lt, h.st.cu.lt⟩
set_option maxRecDepth 100000 in
set_option maxHeartbeats 6400000 in
theorem alive07_any (w : World) : Calls Try.prog 27 #[] w fun e w' => e = .returned (.bool true) ∧ Below w.heap.size w w' := by
  have HHl := Lib.hid (show (hideK [115]).length = 16 from drvN_len _ _ _)
  have HH8 := Lib.hid (show ∀ x ∈ hideK [115], x < 256 from drvN_lt _ _ _)
  have HM8 := Lib.hid (show ∀ x ∈ markK [115], x < 256 from drvN_lt _ _ _)
  have HNw := Lib.hid (fun (A : Option Addr) (c side : Nat) W (hC : (Kd.int .u8).C W A 1 (nat [115])) (hc : 1 ≤ c) (hs : side = 0 ∨ side = 1) => newseal_any [115] A c side W hC hc (by decide) (by decide) (by decide) hs)
  rw [show ([115] : List Nat).length = 1 from rfl] at HNw
  generalize hideK [115] = KH at *
  generalize markK [115] = KM at *
  go_enter Try.func27, Try.ntmps27
  have hcv := fun (w : World) (C : Array Value) (n c : Nat) => N.cv_at w C n c w.heap.size rfl
  go_wp2_with fail
  refine calls_at fun W1 hW1 => ?_
  have hC1 := C_lit [115] w (1, 2) (by decide)
  have hb1 : Below w.heap.size w W1 := by rw [hW1]; exact (Below.refl _ _).alloc (Nat.le_refl _) _
  have HB1 := Lib.hid hb1
  have hq := HNw.out _ 1 0 W1 (by rw [hW1]; exact hC1) (by decide) (.inl rfl)
  have HQ := Lib.hid hq
  clear hW1 hC1 hb1 hq
  refine HQ.out.mono ?_
  rintro e w2 ⟨g, p, q, rfl, hg, hp, hqq, hgq, hse, hb⟩
  have HS1 := Lib.hid hse
  have HO1 := Lib.hid (show w.heap.size ≤ g ∧ w.heap.size ≤ p ∧ w.heap.size ≤ q from ⟨Nat.le_trans HB1.out.size hg, Nat.le_trans HB1.out.size hp, Nat.le_trans HB1.out.size hqq⟩)
  have HB2 := Lib.hid (HB1.out.trans (hb.mono HB1.out.size))
  have HNe := Lib.hid hgq
  clear hg hp hqq hgq hse hb HQ HB1
  go_wp2_with fail
  refine calls_at fun W3 hW3 => ?_
  have hC3 := C_lit [115] w2 (1, 2) (by decide)
  have hb3 : Below w2.heap.size w2 W3 := by rw [hW3]; exact (Below.refl _ _).alloc (Nat.le_refl _) _
  have hq := HNw.out _ 1 1 W3 (by rw [hW3]; exact hC3) (by decide) (.inr rfl)
  have HQ := Lib.hid hq
  have HB3 := Lib.hid hb3
  have HOr := Lib.hid (HS1.out.ord)
  clear hW3 hC3 hb3 hq HNw
  refine HQ.out.mono ?_
  rintro e w4 ⟨g2, p2, q2, rfl, hg, hp, hqq, hgq, hse, hb⟩
  have HT4 := Lib.hid hse
  have hb24 : Below w2.heap.size w2 w4 := HB3.out.trans (hb.mono HB3.out.size)
  have HS4 := Lib.hid (HS1.out.keep hb24)
  have HB4 := Lib.hid (HB2.out.trans (hb24.mono HB2.out.size))
  have HNe2 := Lib.hid hgq
  have HO2 := Lib.hid (show w2.heap.size ≤ g2 ∧ w2.heap.size ≤ p2 ∧ w2.heap.size ≤ q2 from ⟨Nat.le_trans HB3.out.size hg, Nat.le_trans HB3.out.size hp, Nat.le_trans HB3.out.size hqq⟩)
  have HW2 := Lib.hid HB2.out.size
  clear hg hp hqq hgq hse hb hb24 HQ HB3 HS1 HB2
  go_wp2_with fail
  refine calls_at fun W5 hW5 => ?_
  have hC5 := C_lit [104, 101, 108, 108, 111] w4 (5, 6) (by decide)
  have hb5 : Below w4.heap.size w4 W5 := by rw [hW5]; exact (Below.refl _ _).alloc (Nat.le_refl _) _
  have HS5 := Lib.hid (HS4.out.keep hb5)
  have HT5 := Lib.hid (HT4.out.keep hb5)
  have HB5 := Lib.hid (HB4.out.trans (hb5.mono HB4.out.size))
  have HO4 := Lib.hid (HS4.out.ord)
  have HO4b := Lib.hid (HT4.out.ord)
  have hq := seal_any g p q 0 1 0 KH KM [104, 101, 108, 108, 111] (some ⟨w4.heap.size, 0, none⟩) 5 W5 HS5.out (.inl rfl) (by decide) (by decide) (by decide) HHl.out HH8.out HM8.out HNe.out (by rw [hW5]; exact hC5) (fun _ ad e => by injection e with e; subst e; have := HO4.out; exact ⟨by show w4.heap.size ≠ g; omega, by show w4.heap.size ≠ q; omega⟩) (by decide) (by decide)
  have HQ := Lib.hid hq
  have HW5 := Lib.hid hb5.size
  clear hW5 hC5 hb5 hq HS4 HT4 HB4
  refine HQ.out.mono ?_
  rintro e w6 ⟨v6, rfl, hro, hse, hgr, hrr⟩
  clear hrr
  obtain ⟨A6, c6, rfl, hc6, hC6, hf6⟩ := hro
  have hl : (sealN 0 KH KM 1 [104, 101, 108, 108, 111]).length = 29 := sealN_len _ _ _ _ _
  rw [hl] at hc6 hC6 ⊢
  have HS6 := Lib.hid hse
  have HT6 := Lib.hid (HT5.out.gr hgr (by have := HO2.out; have := HOr.out; omega) (by have := HO2.out; have := HOr.out; omega) (by have := HO2.out; have := HOr.out; omega))
  have HB6 := Lib.hid (hgr.low HB5.out HO1.out.1 HO1.out.2.2 HB5.out.size)
  have HC6 := Lib.hid hC6
  have Hc6 := Lib.hid hc6
  have HF6 := Lib.hid (fun ad e => Nat.le_trans (Nat.le_trans (show w4.heap.size ≤ W5.heap.size from HW5.out) (hf6 ad e)) (Nat.le_refl _))
  have hq := open_sealed g2 p2 q2 1 0 1 1 0 KH KM [104, 101, 108, 108, 111] A6 c6 w6 HT6.out (by decide) HHl.out HH8.out HM8.out (by decide) (by decide) HNe2.out rfl (by decide) hC6 hc6
  have HQ := Lib.hid hq
  clear hse hgr hc6 hC6 hf6 hq HS5 HT5 HB5
  go_wp2_with fail
  refine HQ.out.mono ?_
  rintro e w7 ⟨v7, rfl, hro, hse, hgr⟩
  obtain ⟨A7, c7, rfl, hc7, hC7, hf7⟩ := hro
  rw [show ([104, 101, 108, 108, 111] : List Nat).length = 5 from rfl] at hc7 hC7 ⊢
  have HS7 := Lib.hid (HS6.out.gr hgr (by have := HO2.out; have := HOr.out; omega) (by have := HO2.out; have := HOr.out; omega) (by have := HO2.out; have := HOr.out; omega))
  have HB7 := Lib.hid (hgr.low HB6.out (Nat.le_trans HW2.out HO2.out.1) (Nat.le_trans HW2.out HO2.out.2.2) HB6.out.size)
  have hC67 := hgr.C (l := sealN 0 KH KM 1 [104, 101, 108, 108, 111]) (by rw [hl]; exact HC6.out) (fun _ ad e => by have := HF6.out ad e; have := HO4b.out; omega)
  have hq := open_side g p q 0 0 1 1 (1 + 1) (0 + cntN 0 ([104, 101, 108, 108, 111] : List Nat).length) KH KM (sealN 0 KH KM 1 [104, 101, 108, 108, 111]) A6 c6 w7 HS7.out (.inl rfl) (.inr rfl) rfl rfl (by decide) HM8.out hC67 (by rw [hl]; exact Hc6.out) (sealN_lt HH8.out _ _ _ (by decide)) (by rw [hl]; decide) (by rw [hl]; decide) (sealN_right _ _ _ _ _) (sealN_head _ _ _ _ _)
  rw [hl] at hq
  have HQ := Lib.hid hq
  have HC7 := Lib.hid hC7
  clear hq hse hgr hC67 hc7 hC7 hf7 hl HC6 Hc6 HF6 HT6 HB6 HS6
  go_wp2_with fail
  refine HQ.out.mono ?_
  rintro e w8 ⟨rfl, hb8⟩
  have HS8 := Lib.hid (HS7.out.keep hb8)
  have HB8 := Lib.hid (HB7.out.trans (hb8.mono HB7.out.size))
  have HC8 := Lib.hid (Kd.C_below HC7.out hb8)
  clear hb8 HQ HS7 HB7 HC7
  have hst : (convert 41 9 (.slice A7 5 c7)).run Try.prog w8 = .ok (.string { data := #[104, 101, 108, 108, 111] }) w8 := (Kd.C_string Try.underlying41 Try.underlying5 Try.underlying9 HC8.out).trans (by rw [show strOfNums (nat [104, 101, 108, 108, 111]) = { data := #[104, 101, 108, 108, 111] } from rfl])
  have hnx := next_any g p 2 w8 HS8.out.c1 HS8.out.cn (by decide)
  have HX := Lib.hid hnx
  clear hnx HC8 HS8
  go_wp2_with fail
  refine HX.out.mono ?_
  rintro e w9 ⟨rfl, hw⟩
  rw [hw]
  clear hw w9 HX hst
  go_wp2_with fail
  go_ret
  exact ⟨rfl, HB8.out⟩
end Go.Proofs.Ytblnclooobggnaa.Se

namespace Go.Proofs.Ytblnclooobggnaa.Se
open Go.RowKit Go.Proofs.Ytblnclooobggnaa.L Go.Proofs.Ytblnclooobggnaa.N Go.Proofs.Ytblnclooobggnaa.A Go.Proofs.Ytblnclooobggnaa.Mc Go.Proofs.YtblnclooobggnaaW.PrintWords

theorem set_ne {T : List Nat} {j y : Nat} (hj : j < T.length) (hy : y ≠ 0) : T.set j (T.getD j 0 ^^^ y) ≠ T := fun e => by
  have h1 := congrArg (fun l : List Nat => l.getD j 0) e
  simp only [List.getD_eq_getElem?_getD, List.getElem?_set_self hj, Option.getD_some] at h1
  refine hy ?_
  have h2 : T.getD j 0 ^^^ (T.getD j 0 ^^^ y) = T.getD j 0 ^^^ T.getD j 0 := by rw [List.getD_eq_getElem?_getD, h1]
  rwa [← Nat.xor_assoc, Nat.xor_self, Nat.zero_xor] at h2
/-- a datagram whose mark is turned is not marked rightly -/
theorem sealed_turned (s : Nat) (kh km : List Nat) (n : Nat) (b : List Nat) {i y : Nat} (hi : i ≤ 15) (hy : y ≠ 0) {x : List Nat} (hx : x = (sealN s kh km n b).set (b.length + 23 - i) ((sealN s kh km n b).getD (b.length + 23 - i) 0 ^^^ y)) :
    x.length = b.length + 24 ∧ rightN km (x.drop (x.length - 16)) (x.take (x.length - 16)) = false := by
  have hl : x.length = b.length + 24 := by rw [hx, List.length_set, sealN_len]
  have hB := bodN_len s kh n b
  have hT := tag_len km (bodN s kh n b)
  have hx2 : x = bodN s kh n b ++ ((markN km (bodN s kh n b)).take 16).set (15 - i) (((markN km (bodN s kh n b)).take 16).getD (15 - i) 0 ^^^ y) := by
    rw [hx, sealN, List.set_append_right _ _ (by omega), hB, show b.length + 23 - i - (b.length + 8) = 15 - i from by omega]
    congr 2
    rw [List.getD_eq_getElem?_getD, List.getElem?_append_right (by omega), hB, show b.length + 23 - i - (b.length + 8) = 15 - i from by omega, ← List.getD_eq_getElem?_getD]
  refine ⟨hl, ?_⟩
  have e1 : x.take (x.length - 16) = bodN s kh n b := by
    rw [hl, show b.length + 24 - 16 = (bodN s kh n b).length from by omega, hx2]
    exact List.take_left' rfl
  have e2 : x.drop (x.length - 16) = ((markN km (bodN s kh n b)).take 16).set (15 - i) (((markN km (bodN s kh n b)).take 16).getD (15 - i) 0 ^^^ y) := by
    rw [hl, show b.length + 24 - 16 = (bodN s kh n b).length from by omega]
    exact (congrArg (fun l => List.drop (bodN s kh n b).length l) hx2).trans (List.drop_left' rfl)
  rw [e1, e2]
  refine decide_eq_false (fun ⟨_, _, h⟩ => ?_)
  rw [List.length_set, hT] at h
  exact set_ne (by omega) hy h.symm
end Go.Proofs.Ytblnclooobggnaa.Se

namespace Go.Proofs.Ytblnclooobggnaa.N
open Go.RowKit Go.Proofs.Ytblnclooobggnaa.L Go.Proofs.YtblnclooobggnaaW.PrintWords

theorem u8_injS {x y : Nat} (hx : x < 256) (hy : y < 256) (h : UInt8.ofNat (x : Int).toNat = UInt8.ofNat (y : Int).toNat) : x = y := by
  have := congrArg UInt8.toNat h
  simp only [UInt8.toNat_ofNat', Int.toNat_natCast] at this
  omega
theorem map_injS : ∀ {a b : List Nat}, (∀ x ∈ a, x < 256) → (∀ x ∈ b, x < 256) → (nat a).map (fun n => UInt8.ofNat n.toNat) = (nat b).map (fun n => UInt8.ofNat n.toNat) → a = b
  | [], [], _, _, _ => rfl
  | [], y :: b, _, _, h => by simp [nat] at h
  | x :: a, [], _, _, h => by simp [nat] at h
  | x :: a, y :: b, ha, hb, h => by
    simp only [nat, List.map_cons, List.cons.injEq] at h
    rw [u8_injS (ha x (by simp)) (hb y (by simp)) h.1, map_injS (fun z hz => ha z (by simp [hz])) (fun z hz => hb z (by simp [hz])) h.2]
/-- what two strings of unlike bytes are, in the forms that a walk asks -/
theorem str_neS {a b : List Nat} (ha : ∀ x ∈ a, x < 256) (hb : ∀ x ∈ b, x < 256) (h : a ≠ b) : (¬ (strOfNums (nat a)).toList = (strOfNums (nat b)).toList) ∧ ((strOfNums (nat a)).toList == (strOfNums (nat b)).toList) = false := by
  have h1 : ¬ (strOfNums (nat a)).toList = (strOfNums (nat b)).toList := fun e => by
    rw [ByteArray.toList_eq, ByteArray.toList_eq, strOfNums_data, strOfNums_data] at e
    exact h (map_injS ha hb e)
  exact ⟨h1, beq_eq_false_iff_ne.2 h1⟩
theorem strS {A : Option Addr} {n c : Nat} {l : List Nat} {w : World} (hn : l.length = n) (h : (Kd.int .u8).C w A n (nat l)) : (convert 41 9 (.slice A n c)).run Try.prog w = .ok (.string (strOfNums (nat l))) w := by
  have h2 : (Kd.int .u8).C w A (nat l).length (nat l) := by rw [nat_length, hn]; exact h
  have := Kd.C_string (P := Try.prog) (src := 41) (dst := 9) (e := 5) (c := c) Try.underlying41 Try.underlying5 Try.underlying9 h2
  rwa [nat_length, hn] at this
end Go.Proofs.Ytblnclooobggnaa.N
