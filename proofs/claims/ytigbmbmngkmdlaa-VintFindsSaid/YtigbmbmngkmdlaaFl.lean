/-
  vint: fields as lists; a row of fields that is read, laid open.
-/
import Derived.Test.YtigbmbmngkmdlaaVe
import Derived.Test.YtigbmbmngkmdlaaSc
namespace Go.Proofs.Ytigbmbmngkmdlaa.V
open Go.RowKit Go.Proofs.Ytigbmbmngkmdlaa.L Go.Proofs.YtigbmbmngkmdlaaW.PrintWords

abbrev Fld := Int × List Int
/-- a field's cells: the tag, the data -/
def kF : Kd Fld := Kd.pair (Kd.int .u8) (Kd.slice 5 (Kd.int .u8))
def zF : Fld := (0, [])
def okF (l : List Fld) : Prop := ∀ f ∈ l, 0 ≤ f.1 ∧ f.1 < 256 ∧ okB f.2 ∧ f.2.length ≤ 140737488351232

theorem F_open {w : World} {A : Option Addr} {l : List Fld} (h : kF.C w A l.length l) :
    l.length ≤ 9223372036854775807 ∧ (l = [] ∨ ∃ b off, A = some ⟨b, off, none⟩ ∧ b < w.heap.size ∧ ∀ j, j < l.length → w.cell? ⟨b, off + j * 2, none⟩ = some (.int .u8 (l.getD j zF).1) ∧
      ∃ Aj cj, w.cell? ⟨b, off + j * 2 + 1, none⟩ = some (.slice Aj (l.getD j zF).2.length cj) ∧ (l.getD j zF).2.length ≤ cj ∧ (Kd.int .u8).C w Aj (l.getD j zF).2.length (l.getD j zF).2) := by
  refine ⟨h.2.1, ?_⟩
  rcases Nat.eq_zero_or_pos l.length with h0 | h0
  · exact .inl (List.eq_nil_of_length_eq_zero h0)
  · right
    have key : ∀ j, j < l.length → ∃ ad, A = some ad ∧ w.cell? (ad.add (j * 2 + 0)) = some (.int .u8 (l.getD j zF).1) ∧ ∃ Aj cj, w.cell? (ad.add (j * 2 + 1)) = some (.slice Aj (l.getD j zF).2.length cj) ∧ (l.getD j zF).2.length ≤ cj ∧ (Kd.int .u8).C w Aj (l.getD j zF).2.length (l.getD j zF).2 := by
      intro j hj
      obtain ⟨ad, c, e, _, ⟨c0, c1, rfl, h1, A1, n1, rfl, hn, hA⟩, hc⟩ := Kd.C_get h zF j (by omega) (by omega)
      rw [show c0 = [Value.int .u8 (l.getD (j : Int).toNat zF).1] from h1] at hc
      simp only [Int.toNat_natCast] at hc hn hA
      exact ⟨ad, e, hc 0 _ rfl, A1, n1, hc 1 _ rfl, hn, hA⟩
    obtain ⟨ad, e, hc, _⟩ := key 0 h0
    obtain ⟨b, off, spot⟩ := ad
    have hs : spot = none := by
      have := World.cell?_spot hc
      simpa [Addr.add] using this
    subst hs
    refine ⟨b, off, e, ?_, ?_⟩
    · have := World.block_lt_of_cell? w _ hc
      rwa [add_at] at this
    · intro j hj
      obtain ⟨ad, e', hc, Aj, cj, hc1, hr⟩ := key j hj
      rw [e] at e'
      injection e' with e'
      subst e'
      rw [add_at] at hc hc1
      exact ⟨hc, Aj, cj, hc1, hr⟩

/-- fields' bytes; the error -/
def pfL : List Fld → List Int → List Int × Int
  | [], acc => (acc, 0)
  | f :: r, acc => if 16384 < f.2.length then ([], 2) else pfL r (acc ++ [f.1] ++ putL f.2.length ++ f.2)
def pfR (l : List Fld) : List Int × Int := if 128 < l.length then ([], 5) else pfL l []

theorem drop_cons_getD {α : Type} (l : List α) (z : α) (m : Nat) (h : m < l.length) : l.drop m = l.getD m z :: l.drop (m + 1) := by
  rw [List.getD_eq_getElem?_getD, List.getElem?_eq_getElem h]
  exact List.drop_eq_getElem_cons h

set_option maxHeartbeats 1600000 in
set_option maxRecDepth 100000 in
theorem putfields_any (l : List Fld) (A : Option Addr) (c : Nat) (w : World) (hC : kF.C w A l.length l) :
    Calls Try.prog 54 #[.slice A l.length c] w fun e w' => ∃ v0 : Value, e = .returned (.tuple #[v0, .int .i64 (pfR l).2]) ∧ (Kd.int .u8).R 5 w' w.heap.size (fun _ => True) v0 (pfR l).1 ∧ Below w.heap.size w w' := by
  by_cases h128 : 128 < l.length
  · rw [show pfR l = ([], 5) from if_pos h128]
    go_enter Try.func54, Try.ntmps54
    go_wp2
    go_ret2
    exact ⟨_, rfl, Kd.R_nil _ _ _ _ _, Below.refl _ _⟩
  obtain ⟨_, ho⟩ := F_open hC
  have hR : pfL l [] = pfR l := (if_neg h128).symm
  generalize pfR l = R at hR
  have HR := Lib.hid hR
  have HO := Lib.hid ho
  clear hC hR ho
  go_enter Try.func54, Try.ntmps54
  go_wp2
  go_loopg [4, 14] (l.length + 1) (fun g v4 v14 w' => ∃ (acc : List Int) (m : Nat), v14 = .int .i64 m ∧ Hid (m ≤ l.length ∧ acc.length ≤ m * 20000 ∧ l.length < g + m ∧ pfL (l.drop m) acc = R) ∧ Hid ((Kd.int .u8).R 5 w' w.heap.size (fun _ => True) v4 acc) ∧ Hid (Below w.heap.size w w'))
  case atStart => exact ⟨[], 0, rfl, Lib.hid ⟨by omega, by simp, by omega, HR.out⟩, Lib.hid (Kd.R_nil _ _ _ _ _), Lib.hid (Below.refl _ _)⟩
  case round =>
    obtain ⟨acc, m, rfl, HN, HW, HB⟩ := hrel
    cases gk with
    | zero => have := HN.out; omega
    | succ g =>
      obtain ⟨h1, h2, h3, h4⟩ := HN.out
      have H2 := Lib.hid h2
      clear HN h2
      by_cases hlt : m < l.length
      · rw [drop_cons_getD l zF m hlt, pfL] at h4
        rcases HO.out with e | ⟨b, off, rfl, _, hcells⟩
        · subst e; simp at hlt
        obtain ⟨k1, Aj, cj, k2, hcj, kr⟩ := hcells m hlt
        have hbb := HB.out
        have KR := Lib.hid kr
        have k1' := pw_cell_below HB.out k1
        have k2' := pw_cell_below HB.out k2
        clear k1 k2 kr hcells hbb
        generalize l.getD m zF = f at h4 k1' k2' hcj KR
        obtain ⟨tag, data⟩ := f
        by_cases hd : 16384 < data.length
        · rw [if_pos hd] at h4
          subst h4
          go_wp2
          go_ret2
          exact ⟨_, rfl, Kd.R_nil _ _ _ _ _, HB.out.alloc HB.out.size _⟩
        · rw [if_neg hd] at h4
          have H4 := Lib.hid h4
          clear h4 HO HR
          have HLT : Hid (∀ k, u4.ownBlock = some k → k < wr.heap.size) := Lib.hid (fun k hk => Kd.R_lt HW.out k hk)
          go_wp2_with (first
            | (go_at_call 36; refine (put_ok _ _ (by omega) (by omega)).mono ?_; rintro e w1 ⟨v1, rfl, ho1, hb1⟩; (have HB1 := Lib.hid (stay1 (HB.out.alloc HB.out.size (Obj.cells #[Value.int IntKind.u8 tag, Value.slice Aj data.length cj] 90)) hb1)); (have BK1 := Lib.hid (blk_below (blk_new wr (Obj.cells #[Value.int IntKind.u8 tag, Value.slice Aj data.length cj] 90)) hb1)); (have HW1 := Lib.hid (Kd.R_below (Kd.R_alloc HW.out _) hb1)); (have HO1 := Lib.hid ho1); (have q0 := (blk_cell BK1.out 0).trans (show _ = some (Value.int IntKind.u8 tag) from rfl)); clear ho1 hb1)
            | (at_builtin; refine app1 (w0 := w) .u8 w.heap.size (.tmp 30) (.tmp 33) 25 5 1 rfl rfl Try.underlying25 info_u8 (by decide) u4 acc tag rfl rfl HW1.out HB1.out HB1.out.size (by have := H2.out; omega) ?_; intro v2 w2 ho2 hb2 hg2; (have HB2 := Lib.hid hb2); (have HW2 := Lib.hid ho2); (have HO2 := Lib.hid (R_newer HO1.out HLT.out (by simp) hg2)); (have BK2 := Lib.hid (blk_grown BK1.out hg2 (R_ne' HW1.out BK1.out (by decide)))); clear ho2 hb2 hg2)
            | (at_builtin; obtain ⟨A1, c1, rfl, hc1, hC1⟩ := Kd.R_reads HO2.out; refine appn (w0 := w) .u8 w.heap.size (.tmp 35) (.tmp 36) 25 5 1 rfl rfl Try.underlying25 info_u8 (by decide) v2 _ _ _ _ _ rfl rfl HW2.out hC1 HB2.out HB2.out.size (by have := H2.out; simp; have := putL_len data.length; omega) ?_; intro v3 w3 ho3 hb3 hg3; (have HB3 := Lib.hid hb3); (have HW3 := Lib.hid ho3); (have BK3 := Lib.hid (blk_grown BK2.out hg3 (R_ne' HW2.out BK2.out (by decide)))); (have q1 := (blk_cell BK3.out 1).trans (show _ = some (Value.slice Aj data.length cj) from rfl)); clear ho3 hb3 hg3 hC1)
            | (at_builtin; refine appn (w0 := w) .u8 w.heap.size (.tmp 38) (.tmp 40) 25 5 1 rfl rfl Try.underlying25 info_u8 (by decide) v3 _ data _ _ _ rfl rfl HW3.out (Kd.C_below KR.out HB3.out) HB3.out HB3.out.size (by have := H2.out; simp; have := putL_len data.length; omega) ?_; intro v4 w4 ho4 hb4 _; (have HB4 := Lib.hid hb4); (have HW4 := Lib.hid ho4); clear ho4 hb4))
          go_roundg g
          case measure => omega
          case rel => exact ⟨_, m + 1, by go_num, Lib.hid ⟨by omega, by have := H2.out; have := putL_len data.length; simp; omega, by omega, H4.out⟩, HW4, HB4⟩
      · rw [List.drop_eq_nil_of_le (by omega), pfL] at h4
        subst h4
        clear HO HR
        go_wp2
        go_ret2
        exact ⟨_, rfl, HW.out, HB.out⟩

end Go.Proofs.Ytigbmbmngkmdlaa.V
