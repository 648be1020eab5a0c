/-
  vint: Get, whatever the bytes and the place.
-/
import Derived.Test.YthgdbdhonhkkpaaVc
namespace Go.Proofs.Ythgdbdhonhkkpaa.V
open Go.RowKit Go.Proofs.Ythgdbdhonhkkpaa.L Go.Proofs.YthgdbdhonhkkpaaW.PrintWords

theorem drop_getD (l : List Int) (m j : Nat) : (l.drop m).getD j 0 = l.getD (m + j) 0 := by
  simp [List.getD_eq_getElem?_getD, List.getElem?_drop]
theorem drop_len (l : List Int) (m : Nat) : (l.drop m).length = l.length - m := List.length_drop
def okB (l : List Int) : Prop := ∀ x ∈ l, 0 ≤ x ∧ x < 256
theorem okB.at_ {l : List Int} (h : okB l) (j : Nat) : 0 ≤ l.getD j 0 ∧ l.getD j 0 < 256 := by
  by_cases hj : j < l.length
  · rw [List.getD_eq_getElem?_getD, List.getElem?_eq_getElem hj]; exact h _ (List.getElem_mem hj)
  · rw [List.getD_eq_getElem?_getD, List.getElem?_eq_none (by omega)]; simp
/-- a result of Get as a value -/
def getV (r : Int × Int × Int) : Ending := .returned (.tuple #[.int .u64 r.1, .int .i64 r.2.1, .int .i64 r.2.2])
theorem get_any (l : List Int) (A : Option Addr) (c : Nat) (i : Int) (w : World) (hC : (Kd.int .u8).C w A l.length l) (hc : l.length ≤ c) (hb : okB l) :
    Calls Try.prog 60 #[.slice A l.length c, .int .i64 i] w fun e w' => e = getV (getR l i) ∧ Below w.heap.size w w' := by
  obtain ⟨hl, ho⟩ := C_open hC
  by_cases h0 : i < 0
  · rw [show getR l i = (0, 0, 1) from by unfold getR; rw [if_pos h0]]; exact get_arg A l.length c i w (.inl h0)
  by_cases h1 : (l.length : Int) < i
  · rw [show getR l i = (0, 0, 1) from by unfold getR; rw [if_neg h0, if_pos h1]]; exact get_arg A l.length c i w (.inr h1)
  obtain ⟨m, rfl⟩ := Int.eq_ofNat_of_zero_le (show 0 ≤ i by omega)
  have hR : getR l (m : Int) = if (dec (l.drop m)).2.2 = 0 then ((dec (l.drop m)).1, (m : Int) + (dec (l.drop m)).2.1, 0) else (0, 0, (dec (l.drop m)).2.2) := by
    unfold getR; rw [if_neg h0, if_neg h1]; rfl
  by_cases h2 : m = l.length
  · subst h2
    have : getR l (l.length : Int) = (0, 0, 10) := by rw [hR, List.drop_length]; rfl
    rw [this]; exact get_end A l.length c w
  have hm : m < l.length := by omega
  rcases ho with rfl | ⟨b, off, rfl, _, hcell⟩
  · simp at hm
  have hcx := hcell m hm
  have hx := hb.at_ m
  have hD := drop_getD l m
  have hL := drop_len l m
  generalize l.drop m = r at hR hD hL
  match r, hD, hL with
  | [], _, hL => simp at hL; omega
  | x :: r, hD, hL =>
    have ex : l.getD m 0 = x := (hD 0).symm
    rw [ex] at hcx hx
    simp only [List.length_cons] at hL
    by_cases c0 : x < 64
    · refine (get1 l m b off c x w hl hc (by omega) hcx hx.1 c0).mono ?_
      rintro e w' ⟨rfl, hB⟩
      refine ⟨?_, hB⟩
      rw [if_pos (siz1 c0), hR]
      simp only [dec, if_pos c0]; rfl
    by_cases c1 : x < 128
    · match r, hD, hL with
      | [], _, hL =>
        have : getR l (m : Int) = (0, 0, 10) := by rw [hR]; simp only [dec, if_neg c0, if_pos c1]; rfl
        rw [this]; exact get_short l m b off c x w hl hm hcx (.inl ⟨by omega, c1, by simp at hL; omega⟩)
      | a :: r, hD, hL =>
        simp only [List.length_cons] at hL
        have ka := hcell (m + 1) (by omega); rw [show l.getD (m + 1) 0 = a from (hD 1).symm] at ka
        have ba := hb.at_ (m + 1); rw [show l.getD (m + 1) 0 = a from (hD 1).symm] at ba
        refine (get2 l m b off c x a w hl hc (by omega) hcx (by simpa [Nat.add_assoc] using ka) ba.1 ba.2 (by omega) c1).mono ?_
        rintro e w' ⟨rfl, hB⟩
        refine ⟨?_, hB⟩
        rw [hR]
        simp only [dec, if_neg c0, if_pos c1]
        split <;> rfl
    by_cases c2 : x < 192
    · match r, hD, hL with
      | [], _, hL | [_], _, hL | [_, _], _, hL =>
        have : getR l (m : Int) = (0, 0, 10) := by rw [hR]; simp only [dec, if_neg c0, if_neg c1, if_pos c2]; rfl
        rw [this]; exact get_short l m b off c x w hl hm hcx (.inr (.inl ⟨by omega, c2, by simp at hL; omega⟩))
      | a :: b' :: d :: r, hD, hL =>
        simp only [List.length_cons] at hL
        have ka := hcell (m + 1) (by omega); rw [show l.getD (m + 1) 0 = a from (hD 1).symm] at ka
        have ba := hb.at_ (m + 1); rw [show l.getD (m + 1) 0 = a from (hD 1).symm] at ba
        have kb := hcell (m + 2) (by omega); rw [show l.getD (m + 2) 0 = b' from (hD 2).symm] at kb
        have bb := hb.at_ (m + 2); rw [show l.getD (m + 2) 0 = b' from (hD 2).symm] at bb
        have kd := hcell (m + 3) (by omega); rw [show l.getD (m + 3) 0 = d from (hD 3).symm] at kd
        have bd := hb.at_ (m + 3); rw [show l.getD (m + 3) 0 = d from (hD 3).symm] at bd
        refine (get4 l m b off c x a b' d w hl hc (by omega) hcx (by simpa [Nat.add_assoc] using ka) ba.1 ba.2 (by simpa [Nat.add_assoc] using kb) bb.1 bb.2 (by simpa [Nat.add_assoc] using kd) bd.1 bd.2 (by omega) c2).mono ?_
        rintro e w' ⟨rfl, hB⟩
        refine ⟨?_, hB⟩
        rw [hR]
        simp only [dec, if_neg c0, if_neg c1, if_pos c2]
        split <;> rfl
    · match r, hD, hL with
      | [], _, hL | [_], _, hL | [_, _], _, hL | [_, _, _], _, hL | [_, _, _, _], _, hL | [_, _, _, _, _], _, hL | [_, _, _, _, _, _], _, hL =>
        have : getR l (m : Int) = (0, 0, 10) := by rw [hR]; simp only [dec, if_neg c0, if_neg c1, if_neg c2]; rfl
        rw [this]; exact get_short l m b off c x w hl hm hcx (.inr (.inr ⟨by omega, by omega, by simp at hL; omega⟩))
      | a :: b' :: d :: e :: f :: g :: h :: r, hD, hL =>
        simp only [List.length_cons] at hL
        have ka := hcell (m + 1) (by omega); rw [show l.getD (m + 1) 0 = a from (hD 1).symm] at ka
        have ba := hb.at_ (m + 1); rw [show l.getD (m + 1) 0 = a from (hD 1).symm] at ba
        have kb := hcell (m + 2) (by omega); rw [show l.getD (m + 2) 0 = b' from (hD 2).symm] at kb
        have bb := hb.at_ (m + 2); rw [show l.getD (m + 2) 0 = b' from (hD 2).symm] at bb
        have kd := hcell (m + 3) (by omega); rw [show l.getD (m + 3) 0 = d from (hD 3).symm] at kd
        have bd := hb.at_ (m + 3); rw [show l.getD (m + 3) 0 = d from (hD 3).symm] at bd
        have ke := hcell (m + 4) (by omega); rw [show l.getD (m + 4) 0 = e from (hD 4).symm] at ke
        have be := hb.at_ (m + 4); rw [show l.getD (m + 4) 0 = e from (hD 4).symm] at be
        have kf := hcell (m + 5) (by omega); rw [show l.getD (m + 5) 0 = f from (hD 5).symm] at kf
        have bf := hb.at_ (m + 5); rw [show l.getD (m + 5) 0 = f from (hD 5).symm] at bf
        have kg := hcell (m + 6) (by omega); rw [show l.getD (m + 6) 0 = g from (hD 6).symm] at kg
        have bg := hb.at_ (m + 6); rw [show l.getD (m + 6) 0 = g from (hD 6).symm] at bg
        have kh := hcell (m + 7) (by omega); rw [show l.getD (m + 7) 0 = h from (hD 7).symm] at kh
        have bh := hb.at_ (m + 7); rw [show l.getD (m + 7) 0 = h from (hD 7).symm] at bh
        refine (get8 l m b off c x a b' d e f g h w hl hc (by omega) hcx (by simpa [Nat.add_assoc] using ka) ba.1 ba.2 (by simpa [Nat.add_assoc] using kb) bb.1 bb.2 (by simpa [Nat.add_assoc] using kd) bd.1 bd.2 (by simpa [Nat.add_assoc] using ke) be.1 be.2 (by simpa [Nat.add_assoc] using kf) bf.1 bf.2 (by simpa [Nat.add_assoc] using kg) bg.1 bg.2 (by simpa [Nat.add_assoc] using kh) bh.1 bh.2 (by omega) hx.2).mono ?_
        rintro e' w' ⟨rfl, hB⟩
        refine ⟨?_, hB⟩
        rw [hR]
        simp only [dec, if_neg c0, if_neg c1, if_neg c2]
        split <;> rfl
end Go.Proofs.Ythgdbdhonhkkpaa.V
