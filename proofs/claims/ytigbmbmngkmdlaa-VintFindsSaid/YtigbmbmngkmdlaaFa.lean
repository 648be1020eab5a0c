/-
  vint, the statements' own As (fields as the reference's) and Great (are fields too much).
-/
import Derived.Test.YtigbmbmngkmdlaaFm
import Derived.Test.YtigbmbmngkmdlaaQ
namespace Go.Proofs.Ytigbmbmngkmdlaa.V
open Go.RowKit Go.Proofs.Ytigbmbmngkmdlaa.L Go.Proofs.YtigbmbmngkmdlaaW.PrintWords

theorem info_G : (Try.prog.info? 111).map (fun i => (i.zero, i.size, i.bytes)) = some (some (.agg #[.int .u8 0, .slice none 0 0]), 2, 32) := by kernel_rfl
/-- a field whose data came in -/
def kX (w0 : World) : Kd Fld := Kd.pair (Kd.int .u8) (Kd.fixed (Kd.slice 5 (Kd.int .u8)) w0)
theorem kX_read {w0 w : World} {A : Option Addr} {n : Nat} {l : List Fld} (hb : Below w0.heap.size w0 w) (h : (kX w0).C w A n l) : kF.C w A n l :=
  Kd.C_read (d := kF) (dm := kX w0) rfl (fun x cs => by
    rintro ⟨c0, c1, rfl, h0, h1⟩
    exact ⟨c0, c1, rfl, h0, (Kd.slice 5 (Kd.int .u8)).K_below hb h1⟩) h

set_option maxHeartbeats 1600000 in
set_option maxRecDepth 100000 in
theorem as_any (l : List Fld) (A : Option Addr) (c : Nat) (w : World) (hC : kF.C w A l.length l) (hs : l.length * 32 ≤ 140737488351232) :
    Calls Try.prog 57 #[.slice A l.length c] w fun e w' => ∃ A' c', e = .returned (.slice A' l.length c') ∧ kF.C w' A' l.length l ∧ Below w.heap.size w w' := by
  obtain ⟨hmx, ho⟩ := F_open hC
  have HO := Lib.hid ho
  have HS := Lib.hid hs
  clear hC ho hs
  go_enter Try.func57, Try.ntmps57
  go_wp2
  go_loopg [3, 4] (l.length + 1) (fun g v3 v4 w' => ∃ m : Nat, v4 = .int .i64 m ∧ Hid (m ≤ l.length ∧ l.length < g + m) ∧ Hid ((kX w).R 111 w' w.heap.size (fun _ => True) v3 (l.take m)) ∧ Hid (Below w.heap.size w w'))
  case atStart => exact ⟨0, rfl, Lib.hid ⟨by omega, by omega⟩, Lib.hid (by rw [List.take_zero]; exact Kd.R_nil _ _ _ _ _), Lib.hid (Below.refl _ _)⟩
  case round =>
    obtain ⟨m, rfl, HN, HW, HB⟩ := hrel
    cases gk with
    | zero => have := HN.out; omega
    | succ g =>
      obtain ⟨h1, h3⟩ := HN.out
      clear HN
      by_cases hlt : m < l.length
      · rcases HO.out with e | ⟨b, off, rfl, _, hcells⟩
        · subst e; simp at hlt
        obtain ⟨k1, Aj, cj, k2, hcj, kr⟩ := hcells m hlt
        have k1' : ∀ n : Q.GW wr.drew wr.heap.size u3.ownBlock, n.w.cell? ⟨b, off + m * 2, none⟩ = some (.int .u8 (l.getD m zF).1) := fun n => pw_cell_below (HB.out.drew.trans (n.belowB HB.out.size (fun k hk => Kd.R_base HW.out k hk))) k1
        have k2' : ∀ n : Q.GW wr.drew wr.heap.size u3.ownBlock, n.w.cell? ⟨b, off + m * 2 + 1, none⟩ = some (.slice Aj (l.getD m zF).2.length cj) := fun n => pw_cell_below (HB.out.drew.trans (n.belowB HB.out.size (fun k hk => Kd.R_base HW.out k hk))) k2
        have HCJ := Lib.hid hcj
        have KR := Lib.hid kr
        have htk : l.take (m + 1) = l.take m ++ [l.getD m zF] := by
          rw [List.take_add_one, List.getD_eq_getElem?_getD, List.getElem?_eq_getElem hlt]; rfl
        have HT := Lib.hid htk
        have HLT : Hid (∀ k, u3.ownBlock = some k → k < wr.heap.size) := Lib.hid (fun k hk => Kd.R_lt HW.out k hk)
        clear hcells k1 k2 kr hcj htk HO
        generalize l.getD m zF = f at k1' k2' HCJ KR HT
        obtain ⟨tag, data⟩ := f
        simp only at k1' k2'
        go_wp2_with fail
        refine Q.wp_region_segs u3.ownBlock [([0, 1, 2, 3, 4, 5, 6, 7, 8, 9, 10, 11], some 12), ([], some 13), ([14], none)] (by kernel_rfl) (by kernel_rfl) (by kernel_rfl) (by kernel_rfl) ?_
        dsimp only [Q.wpSegs, Q.picks, Q.pick]
        repeat (go_big_quiet_step (fail))
        refine wpQuiet_nil ?_
        go_wp2_with fail
        refine Q.ev_keep ((Below.refl _ _).alloc (Nat.le_refl _) _) (Nat.le_refl _) ?_
        refine wpQuiet_nil ?_
        go_wp2_with (first | (at_builtin; refine appkb (kX w) (w0 := w) (W := wr.drew) w.heap.size wr.heap.size (.tmp 11) (.tmp 23) 99 111 (.agg #[.int .u8 0, .slice none 0 0]) 32 rfl rfl Try.underlying99 info_G rfl (by show 0 < 2; decide) (by decide) u3 (l.take m) (tag, data) [.int .u8 tag, .slice Aj data.length cj] rfl rfl ⟨[_], [_], rfl, rfl, ⟨_, _, rfl, HCJ.out, KR.out⟩⟩ HLT.out (Kd.R_drew HW.out) HB.out.drew HB.out.size (by have := HS.out; simp; omega) ?_; intro v3 w3 ho3 hb3 hg3 _; (have HB3 := Lib.hid hb3); (have HW3 := Lib.hid ho3); (have HG3 := Lib.hid hg3); clear ho3 hb3 hg3))
        refine Q.ev_app (row' := u3.ownBlock) (Q.Gr.of_grown HG3.out (by simp)) (Nat.le_refl _) (Q.NewRow.self _ _) ?_
        repeat (go_big_quiet_step (fail))
        refine wpQuiet_nil ?_
        refine NoPanic.normal ?_
        go_wp2
        go_roundg g
        case measure => omega
        case rel => exact ⟨m + 1, by go_num, Lib.hid ⟨by omega, by omega⟩, by rw [HT.out]; exact HW3, HB3⟩
      · have hm : m = l.length := by omega
        subst hm
        have hw := HW.out
        rw [List.take_length] at hw
        obtain ⟨A3, c3, rfl, _, hC3⟩ := Kd.R_reads hw
        have HC3 := Lib.hid hC3
        clear hw hC3 HO
        go_wp2
        go_ret
        exact ⟨_, _, rfl, kX_read HB.out HC3.out, HB.out⟩
end Go.Proofs.Ytigbmbmngkmdlaa.V
