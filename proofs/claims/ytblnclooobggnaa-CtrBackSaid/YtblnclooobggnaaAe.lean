/-
  aes: fill.
-/
import Derived.Test.YtblnclooobggnaaAc
import Derived.Test.YtblnclooobggnaaAd
import Derived.Laws.CopyOwn
namespace Go.Proofs.Ytblnclooobggnaa.A
open Go.RowKit Go.Proofs.Ytblnclooobggnaa.L Go.Proofs.Ytblnclooobggnaa.N Go.Proofs.YtblnclooobggnaaW.PrintWords

theorem arr_bys (l : List Nat) : (arr .u8 l).toList = bys l := by simp [arr, bys]
theorem setCells_grow (w : World) (b o : Nat) (vs : List Value) : w.grownBy (w.setCells b o vs) (some b) := setCells_grown b vs o w
theorem CB.cat {b : Nat} {dn st tn : Int} {made : Bool} {M : List Nat} {w : World} (h : CB b dn st made M tn w) {i j : Nat} (hi : i < 704) (e : 4 + i = j) : w.cell? ⟨b, j, none⟩ = some (.int .u8 (M.getD i 0 : Nat)) := by
  rw [← e]; exact h.cm hi
theorem CB.sat {b : Nat} {dn st tn : Int} {made : Bool} {M : List Nat} {w : World} (h : CB b dn st made M tn w) {i j : Nat} (hi : i < 704) (e : 4 + i = j) (x : Nat) : CB b dn st made (M.set i x) tn (w.setCell ⟨b, j, none⟩ (.int .u8 (x : Int))) := by
  rw [← e]; exact h.sm hi x
theorem info_u8s : (Try.prog.info? 5).map (·.size) = some 1 := by kernel_rfl
theorem load_midA {P : Program} {ops : Array Oper} {Q : Exit → Act → World → Prop} {rest : List Oper} {a : Act} {w : World} {o : Oper} {t e : TypeId} {n : Nat} {p : Operand} (b off : Nat) (l : List Nat) (hgd : o.guard = none) (ho : o.op = .load t p) (hp : a.eval p = .pointer (some ⟨b, off, none⟩))
    (hc : w.rangeAt b off (bys l)) (hu : P.underlying t = some (.array n e)) (hi : (P.info? t).map (·.size) = some l.length)
    (h : wpList P ops Q rest (a.put o.dst (.agg (arr .u8 l))) w) : wpList P ops Q (o :: rest) a w :=
  wpList_load_mid hgd t p ho b off hp (bys l) _ hc hu rfl (by rw [bys_len]; exact hi) h
theorem grown_up {w w1 w2 : World} {b g : Nat} (h : w.grownBy w1 (some b)) (h2 : w1.grownBy w2 (some g)) (hg : w.heap.size ≤ g) : w.grownBy w2 (some b) :=
  ⟨h2.os.trans h.os, h2.tape.trans h.tape, h2.output.trans h.output, Nat.le_trans h.size h2.size, fun k hk hne => (h2.block k (Nat.lt_of_lt_of_le hk h.size) (fun e => by injection e with e; omega)).trans (h.block k hk hne)⟩
theorem info_w4 : (Try.prog.info? 36).map (·.size) = some 4 := by kernel_rfl
theorem tmpW_len (W : List Nat) (i : Nat) : (tmpW W i).length = 4 := by unfold tmpW; split <;> rfl
/-- word n + 4 written up to k bytes -/
def wQ (key old : List Nat) (n k : Nat) : List Nat := (WS key n ++ (nxtW (WS key n) (n + 4)).take k) ++ old.drop (16 + 4 * n + k)
theorem wQ_zero (key old : List Nat) (n : Nat) : wQ key old n 0 = wP key old n := by simp [wQ, wP]
theorem wQ_four (key old : List Nat) (n : Nat) : wQ key old n 4 = wP key old (n + 1) := by
  unfold wQ wP
  rw [WS_succ, List.take_of_length_le (by rw [nxtW_len]; exact Nat.le_refl _), show 16 + 4 * (n + 1) = 16 + 4 * n + 4 from by omega]
theorem nxtW_get (W : List Nat) (n : Nat) {k : Nat} (h : k < 4) : (nxtW W (n + 4)).getD k 0 = W.getD (4 * n + k) 0 ^^^ (tmpW W (n + 4)).getD k 0 := by
  unfold nxtW
  rw [List.getD_eq_getElem?_getD, List.getElem?_map, List.getElem?_range h]
  rfl
theorem wQ_get {key old : List Nat} (h : key.length = 16) {n j : Nat} (k : Nat) (hj : j < 16 + 4 * n) : (wQ key old n k).getD j 0 = (WS key n).getD j 0 := by
  unfold wQ
  rw [List.append_assoc]
  exact getD_left (by rw [WS_len h]; exact hj)
theorem wQ_set {key old : List Nat} (h : key.length = 16) (ho : old.length = 176) {n k : Nat} (hn : n < 40) (hk : k < 4) : (wQ key old n k).set (16 + 4 * n + k) ((nxtW (WS key n) (n + 4)).getD k 0) = wQ key old n (k + 1) := by
  have hl := nxtW_len (WS key n) (n + 4)
  unfold wQ
  obtain ⟨nx, hnx⟩ : ∃ nx, nx = nxtW (WS key n) (n + 4) := ⟨_, rfl⟩
  rw [← hnx] at hl ⊢
  have e1 : (WS key n ++ nx.take k).length = 16 + 4 * n + k := by rw [List.length_append, WS_len h, List.length_take]; omega
  rw [List.set_append_right _ _ (by omega), e1, Nat.sub_self, List.drop_eq_getElem_cons (i := 16 + 4 * n + k) (by omega), List.set_cons_zero]
  have e2 : nx.take (k + 1) = nx.take k ++ [nx.getD k 0] := by
    rw [List.take_add_one, List.getD_eq_getElem?_getD, List.getElem?_eq_getElem (by omega)]
    rfl
  rw [e2]
  simp [Nat.add_assoc]
theorem wQ_len {key old : List Nat} (h : key.length = 16) (ho : old.length = 176) {n k : Nat} (hn : n < 40) (hk : k ≤ 4) : (wQ key old n k).length = 176 := by
  unfold wQ
  simp only [List.length_append, List.length_take, List.length_drop, WS_len h, nxtW_len]
  omega
theorem wrd_cell {b : Nat} {dn st tn : Int} {made : Bool} {key ws : List Nat} {w : World} (h : CB b dn st made (MM key boxT twT ws) tn w) (hk : key.length = 16) {i j x : Nat} (hi : i < 176) (e : 532 + i = j) (hx : ws.getD i 0 = x) : w.cell? ⟨b, j, none⟩ = some (.int .u8 (x : Nat)) := by
  have := h.cat (i := 528 + i) (j := j) (by omega) (by omega)
  rw [MM_ws hk boxT_len twT_len, hx] at this
  exact this
theorem box_cell {b : Nat} {dn st tn : Int} {made : Bool} {key tw ws : List Nat} {w : World} (h : CB b dn st made (MM key boxT tw ws) tn w) (hk : key.length = 16) {i : Nat} (hi : i < 256) : w.cell? ⟨b, 20 + i, none⟩ = some (.int .u8 (bxv i : Nat)) := by
  have := h.cat (i := 16 + i) (j := 20 + i) (by omega) (by omega)
  rw [MM_box hk boxT_len hi] at this
  exact this
theorem wrd_range {b : Nat} {dn st tn : Int} {made : Bool} {key ws : List Nat} {w : World} (h : CB b dn st made (MM key boxT twT ws) tn w) (hk : key.length = 16) {i o a0 a1 a2 a3 : Nat} (hi : i + 4 ≤ 176) (ho : o = 532 + i) (e0 : ws.getD i 0 = a0) (e1 : ws.getD (i + 1) 0 = a1) (e2 : ws.getD (i + 2) 0 = a2) (e3 : ws.getD (i + 3) 0 = a3) : w.rangeAt b o (bys [a0, a1, a2, a3]) := by
  subst ho
  rw [show 532 + i = 4 + (528 + i) from by omega]
  refine h.range (fun j hj => ?_) (by show 528 + i + 4 ≤ 704; omega)
  rw [show 528 + i + j = 528 + (i + j) from by omega, MM_ws hk boxT_len twT_len]
  rcases (show j = 0 ∨ j = 1 ∨ j = 2 ∨ j = 3 from by have : j < 4 := hj; omega) with h | h | h | h <;> subst h
  · exact e0
  · exact e1
  · exact e2
  · exact e3
/-- the key's bytes at the front of the words, up to i words -/
def kcp (key ws : List Nat) (i : Nat) : List Nat := key.take (4 * i) ++ ws.drop (4 * i)
theorem kcp_zero (key ws : List Nat) : kcp key ws 0 = ws := by simp [kcp]
theorem kcp_len {key ws : List Nat} (hk : key.length = 16) (hw : ws.length = 176) {i : Nat} (hi : i ≤ 4) : (kcp key ws i).length = 176 := by
  unfold kcp; simp only [List.length_append, List.length_take, List.length_drop]; omega
theorem kcp_step {key ws : List Nat} (hk : key.length = 16) (_hw : ws.length = 176) {i : Nat} (hi : i < 4) : splice (kcp key ws i) (4 * i) ((key.drop (4 * i)).take 4) = kcp key ws (i + 1) := by
  unfold splice kcp
  have e0 : (key.take (4 * i)).length = 4 * i := by rw [List.length_take]; omega
  have e1 : ((key.drop (4 * i)).take 4).length = 4 := by rw [List.length_take, List.length_drop]; omega
  rw [e1, List.take_append_of_le_length (by omega), List.take_of_length_le (by omega)]
  have e2 : (key.take (4 * i) ++ ws.drop (4 * i)).drop (4 * i + 4) = ws.drop (4 * (i + 1)) := by
    rw [List.drop_append, List.drop_of_length_le (by omega), List.nil_append, e0, List.drop_drop]
    congr 1
    omega
  have e3 : key.take (4 * (i + 1)) = key.take (4 * i) ++ (key.drop (4 * i)).take 4 := by rw [show 4 * (i + 1) = 4 * i + 4 from by omega, List.take_add]
  rw [e2, e3, List.append_assoc]
theorem kcp_all {key ws : List Nat} (hk : key.length = 16) : kcp key ws 4 = wP key ws 0 := by
  unfold kcp wP
  rw [WS, List.take_of_length_le (by omega)]
theorem key_cut (b i : Nat) (hi : i < 4) (W : World) : (Instr.sliceAt 27 (.pointer (some ⟨b, 4, none⟩)) (some (.int .i64 (4 * (i : Int)))) none none).run Try.prog W = .ok (.slice (some ⟨b, 4 + 4 * i, none⟩) (16 - 4 * i) (16 - 4 * i)) W := by
  rcases (show i = 0 ∨ i = 1 ∨ i = 2 ∨ i = 3 from by omega) with h | h | h | h <;> subst h <;> kernel_rfl
theorem wpl_at {P : Program} {ops : Array Oper} {Q : Exit → Act → World → Prop} {rest : List Oper} {a : Act} {W : World} (h : ∀ W', W' = W → wpList P ops Q rest a W') : wpList P ops Q rest a W := h W rfl
theorem bys_one (l : List Nat) : ∀ v ∈ bys l, v.oneCell' = true := fun v hv => by
  obtain ⟨x, _, rfl⟩ := List.mem_map.1 hv
  rfl
theorem CC_splice {dn st tn : Int} {made : Bool} {M : List Nat} (hl : M.length = 704) {o : Nat} {cs : List Nat} (ho : o + cs.length ≤ 704) : splice (CC dn st made M tn) (4 + o) (bys cs) = CC dn st made (splice M o cs) tn := by
  unfold CC
  unfold splice
  rw [bys_len]
  have e4 : [Value.int .u32 dn, .int .i32 st, .int .u32 0, .bool made].length = 4 := rfl
  rw [List.take_append, List.drop_append, e4, List.take_of_length_le (by rw [e4]; omega), List.drop_of_length_le (by rw [e4]; omega), show 4 + o - 4 = o from by omega, show 4 + o + cs.length - 4 = o + cs.length from by omega, List.take_append_of_le_length (by rw [bys_len]; omega), List.drop_append_of_le_length (by rw [bys_len]; omega)]
  rw [bys_app, bys_app]
  unfold bys
  rw [List.map_take, List.map_drop]
  simp
theorem CB.row {b : Nat} {dn st tn : Int} {made : Bool} {M : List Nat} {w : World} (h : CB b dn st made M tn w) {o p : Nat} {cs : List Nat} (ho : o + cs.length ≤ 704) (hp : p = 4 + o) : CB b dn st made (splice M o cs) tn (w.setRow b (((CC dn st made M tn).toArray.toList.take p ++ (bys cs ++ (CC dn st made M tn).toArray.toList.drop (p + (bys cs).length))).toArray)) := by
  subst hp
  have e := CC_splice (dn := dn) (st := st) (made := made) (tn := tn) h.len ho
  refine ⟨(setRow_heap w b _ _ tC _ h.blk).trans ?_, ?_⟩
  · rw [← e]
    rfl
  · have hl := h.len
    unfold splice
    simp only [List.length_append, List.length_take, List.length_drop]
    omega
theorem min4 {i : Nat} (h : i < 4) : (16 - 4 * i).min 4 = 4 := by
  rcases (show i = 0 ∨ i = 1 ∨ i = 2 ∨ i = 3 from by omega) with h | h | h | h <;> subst h <;> rfl
theorem key_src {b : Nat} {dn st tn : Int} {made : Bool} {key box tw ws : List Nat} {w : World} (h : CB b dn st made (MM key box tw ws) tn w) (hk : key.length = 16) {i : Nat} (hi : i < 4) : ∀ (j : Nat) (v : Value), (bys ((key.drop (4 * i)).take 4))[j]? = some v → w.cell? ((⟨b, 4 + 4 * i, none⟩ : Addr).add j) = some v := fun j v hj => by
  have hl : j < ((key.drop (4 * i)).take 4).length := by
    have := (List.getElem?_eq_some_iff.1 hj).1
    rwa [bys_len] at this
  rw [bys_get hl] at hj
  have hj4 : j < 4 := by rw [List.length_take] at hl; omega
  rw [Addr.add_mid, show 4 + 4 * i + j = 4 + (4 * i + j) from by omega, h.cm (by omega), MM_key hk (by omega), ← hj]
  congr 3
  rw [List.getD_eq_getElem?_getD, List.getD_eq_getElem?_getD, List.getElem?_take, if_pos hj4, List.getElem?_drop]
set_option maxRecDepth 100000 in
set_option maxHeartbeats 6400000 in
theorem fill_any (b : Nat) (dn st tn : Int) (made : Bool) (key box tw ws : List Nat) (w : World) (h : CB b dn st made (MM key box tw ws) tn w) (hk : key.length = 16) (hb : box.length = 256) (ht : tw.length = 256) (hw : ws.length = 176) (hk8 : ∀ x ∈ key, x < 256) :
    Calls Try.prog 59 #[.pointer (some ⟨b, 0, none⟩)] w fun e w' => e = .returned (.tuple #[]) ∧ CB b dn st made (MF key) tn w' ∧ w.grownBy w' (some b) := by
  have HC := Lib.hid h
  have HK := Lib.hid hk
  have HBx := Lib.hid hb
  have HTw := Lib.hid ht
  have HWs := Lib.hid hw
  have HK8 := Lib.hid hk8
  clear h hk hb ht hw hk8
  go_enter Try.func59, Try.ntmps59
  go_upto_region 1 with (first
    | (go_at_call 35; refine (boxes_any _).mono ?_; rintro e w1 ⟨rfl, hb1⟩; (have HC1 := Lib.hid (HC.out.below hb1)); (have HG1 := Lib.hid (grown_below hb1 (some b))); clear hb1)
    | (refine wpList_store_mid rfl t256 (.tmp 11) (.tmp 9) rfl b 20 (arr .u8 boxT) rfl rfl (by rw [arr_size, boxT_len]; exact HC1.out.there (o := 16) (by omega)) (by rw [arr_size, boxT_len]; exact info_256) (arr_one _ _) ?_))
  refine wp_at fun W2 hW2 => ?_
  have HC2 := Lib.hid (show CB b dn st made (MM key boxT (fld twT tw 0) ws) tn W2 from by
    rw [hW2, arr_bys, fld_zero]
    have := HC1.out.sp (o := 16) (cs := boxT) (by rw [boxT_len]; omega)
    rwa [MM_sp_box HK.out HBx.out boxT_len] at this)
  have HG2 := Lib.hid (show w.grownBy W2 (some b) from by rw [hW2]; exact HG1.out.trans (setCells_grow _ _ _ _))
  clear hW2 HC1 HG1 HC HBx
  go_wp2_with fail
  go_loopg [12] 258 (fun g v12 w' => ∃ i : Nat, v12 = .int .i64 (i : Int) ∧ Hid (i ≤ 256 ∧ 256 < g + i) ∧ Hid (CB b dn st made (MM key boxT (fld twT tw i) ws) tn w') ∧ Hid (w.grownBy w' (some b)))
  case atStart => exact ⟨0, rfl, Lib.hid ⟨by omega, by omega⟩, HC2, HG2⟩
  case round =>
    obtain ⟨i, rfl, HJ, HC, HG⟩ := hrel
    clear HC2 HG2
    cases gk with
    | zero => have := HJ.out; omega
    | succ k =>
      by_cases hi : i < 256
      · have HJ' := Lib.hid (show i < 256 ∧ 256 < (k + 1) + i from ⟨hi, HJ.out.2⟩)
        have HD := Lib.hid (fun W => double_any i W hi)
        have HTl := Lib.hid (fld_length (new := twT) (old := tw) (by rw [twT_len]; exact HTw.out.symm) (i := i) (by rw [twT_len]; omega))
        have z0 : (i : Int) < 256 := by omega
        have z1 : (0 : Int) ≤ (i : Int) := by omega
        clear hi HJ
        go_wp2_with fail
        refine Q.wp_region_segsF none [([0, 1, 2, 3, 5, 6], some 4)] [7] 8 (by kernel_rfl) (by kernel_rfl) (by kernel_rfl) (by kernel_rfl) ?_
        dsimp only [Q.wpSegsF, Q.picks, Q.pick]
        repeat (go_big_quiet_step (fail))
        refine wpQuiet_nil ?_
        go_wp2_with (go_at_call 57; refine (HD.out _).mono ?_; rintro e w1 ⟨rfl, hw1⟩; (rw [hw1]); clear hw1 w1)
        refine Q.ev_keep (Below.refl _ _) (Nat.le_refl _) ?_
        repeat (go_big_quiet_step (fail))
        refine wpQuiet_nil ?_
        have c0 := HC.out.drew.cat (i := 272 + i) (j := 276 + i) (by have := HJ'.out; omega) (by omega)
        have f0 := HC.out.drew.fz (276 + i)
        go_wp2_with fail
        refine NoPanic.normal ?_
        clear c0 f0
        go_wp2_with fail
        go_roundg k
        case measure => have := HJ'.out; omega
        case rel =>
          have hs := HC.out.drew.sat (i := 272 + i) (j := 276 + i) (by have := HJ'.out; omega) (by omega) (dbl i)
          rw [MM_set_tw HK.out boxT_len (HTl.out.trans HTw.out) HJ'.out.1, ← twT_get HJ'.out.1, fld_step (by rw [twT_len]; exact HTw.out.symm) (by rw [twT_len]; exact HJ'.out.1), twT_get HJ'.out.1] at hs
          exact ⟨i + 1, by go_num, Lib.hid (by have := HJ'.out; omega), Lib.hid hs, Lib.hid ((HG.out.trans (gdrew wr _)).trans (gset _ b _ _))⟩
      · obtain rfl : i = 256 := by have := HJ.out; omega
        clear hi HJ
        have hc := HC.out
        rw [show fld twT tw 256 = twT from by have := fld_all (new := twT) (old := tw) (by rw [twT_len]; exact HTw.out.symm); rw [twT_len] at this; exact this, ← kcp_zero key ws] at hc
        have HC2 := Lib.hid hc
        have HG2 := HG
        clear hc HC HG HTw
        go_wp2_with fail
        go_loopg [24] 6 (fun g v24 w' => ∃ i : Nat, v24 = .int .i64 (i : Int) ∧ Hid (i ≤ 4 ∧ 4 < g + i) ∧ Hid (CB b dn st made (MM key boxT twT (kcp key ws i)) tn w') ∧ Hid (w.grownBy w' (some b)))
        case atStart => exact ⟨0, rfl, Lib.hid ⟨by omega, by omega⟩, HC2, HG2⟩
        case round =>
          obtain ⟨i, rfl, HJ, HC, HG⟩ := hrel
          clear HC2 HG2
          cases gk with
          | zero => have := HJ.out; omega
          | succ k =>
            by_cases hi : i < 4
            · have HJ' := Lib.hid (show i < 4 ∧ 4 < (k + 1) + i from ⟨hi, HJ.out.2⟩)
              have z0 : (i : Int) < 4 := by omega
              have z1 : (0 : Int) ≤ (i : Int) := by omega
              have hkc := fun W => key_cut b i HJ'.out.1 W
              clear hi HJ
              go_wp2_with fail
              refine Q.wp_region_segsF none [] [0, 1, 2, 3, 4, 5, 6, 7, 8, 9, 10, 11] 12 (by kernel_rfl) (by kernel_rfl) (by kernel_rfl) (by kernel_rfl) ?_
              dsimp only [Q.wpSegsF, Q.picks, Q.pick]
              repeat (go_big_quiet_step (fail))
              refine wpQuiet_nil ?_
              clear hkc
              have hc := HC.out
              have h16 : ((key.drop (4 * i)).take 4).length = 4 := by rw [List.length_take, List.length_drop]; have := HK.out; have := HJ'.out; omega
              refine wpList_copy_own (P := Try.prog) rfl (.tmp 32) (.tmp 38) 41 41 rfl 5 Try.underlying41 info_u8s b (532 + i * 4) 4 4 ⟨b, 4 + 4 * i, none⟩ (16 - 4 * i) (16 - 4 * i) rfl rfl (CC dn st made (MM key boxT twT (kcp key ws i)) tn).toArray tC hc.blk (bys ((key.drop (4 * i)).take 4)) (by rw [bys_len, h16, min4 HJ'.out.1]) (key_src hc.drew HK.out HJ'.out.1) (by rw [bys_len, h16]; have hl := hc.len; have := HJ'.out; simp only [List.size_toArray]; unfold CC; simp only [List.length_append, List.length_cons, List.length_nil, bys_len, hl]; omega) (bys_one _) ?_
              have hr := hc.drew.row (o := 528 + 4 * i) (p := 532 + i * 4) (cs := (key.drop (4 * i)).take 4) (by rw [h16]; have := HJ'.out; omega) (by omega)
              rw [MM_sp_ws HK.out boxT_len twT_len, kcp_step HK.out HWs.out HJ'.out.1] at hr
              clear h16 hc
              refine wpl_at fun W3 hW3 => ?_
              have HR := Lib.hid (show CB b dn st made (MM key boxT twT (kcp key ws (i + 1))) tn W3 from by rw [hW3]; exact hr)
              have HRg := Lib.hid (show w.grownBy W3 (some b) from by rw [hW3]; exact (HG.out.trans (gdrew wr _)).trans (grown_setRow _ b _))
              clear hW3 HC HG hr
              go_wp2_with fail
              refine NoPanic.normal ?_
              go_wp2_with fail
              go_roundg k
              case measure => have := HJ'.out; omega
              case rel => exact ⟨i + 1, by go_num, Lib.hid (by have := HJ'.out; omega), HR, HRg⟩
            · obtain rfl : i = 4 := by have := HJ.out; omega
              clear hi HJ
              have hc := HC.out
              rw [kcp_all HK.out] at hc
              have HC2 := Lib.hid hc
              have HG2 := HG
              clear hc HC HG
              go_wp2_with fail
              go_loopg [4, 5] 42 (fun g v4 v5 w' => ∃ n : Nat, v4 = .int .u8 (pw ((n + 3) / 4) : Nat) ∧ v5 = .int .i64 ((n : Int) + 4) ∧ Hid (n ≤ 40 ∧ 40 < g + n) ∧ Hid (CB b dn st made (MM key boxT twT (wP key ws n)) tn w') ∧ Hid (w.grownBy w' (some b)))
              case atStart => exact ⟨0, rfl, rfl, Lib.hid ⟨by omega, by omega⟩, HC2, HG2⟩
              case round =>
                obtain ⟨n, rfl, rfl, HJ, HC, HG⟩ := hrel
                clear HC2 HG2
                cases gk with
                | zero => have := HJ.out; omega
                | succ k =>
                  by_cases hi : n < 40
                  · have HJ' := Lib.hid (show n < 40 ∧ 40 < (k + 1) + n from ⟨hi, HJ.out.2⟩)
                    have z0 : (n : Int) < 40 := by omega
                    have z1 : (0 : Int) ≤ (n : Int) := by omega
                    clear hi HJ
                    obtain ⟨a0, e0⟩ : ∃ x, (WS key n).getD (4 * (n + 3)) 0 = x := ⟨_, rfl⟩
                    obtain ⟨a1, e1⟩ : ∃ x, (WS key n).getD (4 * (n + 3) + 1) 0 = x := ⟨_, rfl⟩
                    obtain ⟨a2, e2⟩ : ∃ x, (WS key n).getD (4 * (n + 3) + 2) 0 = x := ⟨_, rfl⟩
                    obtain ⟨a3, e3⟩ : ∃ x, (WS key n).getD (4 * (n + 3) + 3) 0 = x := ⟨_, rfl⟩
                    have HR4 := Lib.hid (wrd_range HC.out HK.out (i := 4 * (n + 3)) (o := 532 + (n + 3) * 4) (by have := HJ'.out; omega) (by omega) ((wP_get HK.out (by omega)).trans e0) ((wP_get HK.out (by omega)).trans e1) ((wP_get HK.out (by omega)).trans e2) ((wP_get HK.out (by omega)).trans e3))
                    have HA8 := Lib.hid (show a0 < 256 ∧ a1 < 256 ∧ a2 < 256 ∧ a3 < 256 from by rw [← e0, ← e1, ← e2, ← e3]; exact ⟨getD_lt0 (by decide) _ (WS_lt HK8.out n), getD_lt0 (by decide) _ (WS_lt HK8.out n), getD_lt0 (by decide) _ (WS_lt HK8.out n), getD_lt0 (by decide) _ (WS_lt HK8.out n)⟩)
                    have HE := Lib.hid (And.intro e0 (And.intro e1 (And.intro e2 e3)))
                    clear e0 e1 e2 e3
                    by_cases h4 : n % 4 = 0
                    · have m1 : (n : Int) % 4 = 0 := by omega
                      have m2 : ((n : Int) + 4) % 4 = 0 := by omega
                      have m3 : ((n : Int) + 4).tmod 4 = 0 := by rw [Int.tmod_eq_emod_of_nonneg (by omega)]; omega
                      have HTT := Lib.hid (show tmpW (WS key n) (n + 4) = [bxv a1 ^^^ pw ((n + 3) / 4), bxv a2, bxv a3, bxv a0] from by
                        rw [tmpW, if_pos (by omega), show n + 4 - 1 = n + 3 from by omega, HE.out.1, HE.out.2.1, HE.out.2.2.1, HE.out.2.2.2])
                      have HPW := Lib.hid (show pw ((n + 1 + 3) / 4) = dbl (pw ((n + 3) / 4)) from by rw [show (n + 1 + 3) / 4 = (n + 3) / 4 + 1 from by omega, pw])
                      clear h4
                      go_wp2_with (first
                        | (refine load_midA b (532 + (n + 3) * 4) [a0, a1, a2, a3] rfl rfl rfl HR4.out Try.underlying36 info_w4 ?_)
                        | (refine store_ab .u8 wr.heap.size [0, 0, 0, 0] [a0, a1, a2, a3] rfl rfl rfl rfl rfl (AB.mk wr .u8 _ _) info_w4 rfl ?_; intro w3 h3 hg3; (have HT := Lib.hid h3); (have HB3 := Lib.hid (below_new hg3)); clear h3 hg3))
                      have HC3 := Lib.hid (show CB b dn st made (MM key boxT twT (wP key ws n)) tn w3 from HC.out.below HB3.out.1)
                      have HG3 := Lib.hid (HG.out.trans (grown_below HB3.out.1 (some b)))
                      have Hne := Lib.hid HC.out.lt
                      have HGs := Lib.hid HG.out.size
                      clear HC HG HR4 HB3
                      generalize wr.heap.size = g6 at *
                      obtain ⟨A0, A1, A2, A3⟩ := HA8.out
                      have s0 : w3.cell? ⟨g6, 0, none⟩ = some (.int .u8 (a0 : Nat)) := HT.out.cell (i := 0) (show 0 < 4 by decide)
                      have s1 : w3.cell? ⟨g6, 1, none⟩ = some (.int .u8 (a1 : Nat)) := HT.out.cell (i := 1) (show 1 < 4 by decide)
                      have s2 : w3.cell? ⟨g6, 2, none⟩ = some (.int .u8 (a2 : Nat)) := HT.out.cell (i := 2) (show 2 < 4 by decide)
                      have s3 : w3.cell? ⟨g6, 3, none⟩ = some (.int .u8 (a3 : Nat)) := HT.out.cell (i := 3) (show 3 < 4 by decide)
                      have q0 := gw HT.out.lt s0
                      have q1 := gw HT.out.lt s1
                      have q2 := gw HT.out.lt s2
                      have q3 := gw HT.out.lt s3
                      have b0 := gw HC3.out.lt (box_cell HC3.out HK.out A0)
                      have b1 := gw HC3.out.lt (box_cell HC3.out HK.out A1)
                      have b2 := gw HC3.out.lt (box_cell HC3.out HK.out A2)
                      have b3 := gw HC3.out.lt (box_cell HC3.out HK.out A3)
                      have x1 := xor_u8 (bxv a1) (pw ((n + 3) / 4)) (bxv_lt _) (pw_lt _)
                      have B0 : (a0 : Int) < 256 := by omega
                      have B1 : (a1 : Int) < 256 := by omega
                      have B2 : (a2 : Int) < 256 := by omega
                      have B3 : (a3 : Int) < 256 := by omega
                      clear A0 A1 A2 A3 s0 s1 s2 s3
                      refine Q.wp_region_segsF none [] [0, 1, 2, 3, 4, 5, 6, 7, 8, 9, 10, 11, 12, 13, 14, 15, 16, 17, 18, 19, 20, 21, 22, 23, 24, 25, 26, 27, 28, 29, 30] 31 (by kernel_rfl) (by kernel_rfl) (by kernel_rfl) (by kernel_rfl) ?_
                      dsimp only [Q.wpSegsF, Q.picks, Q.pick]
                      repeat (go_big_quiet_step (fail))
                      refine wpQuiet_nil ?_
                      clear q0 q1 q2 q3 b0 b1 b2 b3 x1 B0 B1 B2 B3
                      refine store_ab .u8 g6 [a0, a1, a2, a3] [bxv a1 ^^^ pw ((n + 3) / 4), bxv a2, bxv a3, bxv a0] rfl rfl rfl rfl rfl HT.out.drew info_w4 rfl ?_
                      intro w4 h4 hg4
                      have HT3 := Lib.hid (show AB .u8 36 g6 (tmpW (WS key n) (n + 4)) w4 from by rw [HTT.out]; exact h4)
                      have HC5 := Lib.hid (HC3.out.drew.grown hg4 (by have := Hne.out; omega))
                      have HG5 := Lib.hid (grown_up (HG3.out.trans (gdrew w3 _)) hg4 HGs.out)
                      clear HC3 HG3 h4 hg4 HT HTT
                      have hcw := HC5.out
                      rw [← wQ_zero] at hcw
                      have HC3 := Lib.hid hcw
                      have HG3 := HG5
                      clear hcw HC5 HG5
                      refine NoPanic.normal ?_
                      have HD := Lib.hid (fun W => double_any (pw ((n + 3) / 4)) W (pw_lt _))
                      go_wp2_with (go_at_call 57; refine (HD.out _).mono ?_; rintro e w1 ⟨rfl, hw1⟩; (rw [hw1]); clear hw1 w1 HD)
                      go_loopg [88] 6 (fun g v88 w' => ∃ i : Nat, v88 = .int .i64 (i : Int) ∧ Hid (i ≤ 4 ∧ 4 < g + i) ∧ Hid (CB b dn st made (MM key boxT twT (wQ key ws n i)) tn w') ∧ Hid (AB .u8 36 g6 (tmpW (WS key n) (n + 4)) w') ∧ Hid (w.grownBy w' (some b)))
                      case atStart => exact ⟨0, rfl, Lib.hid ⟨by omega, by omega⟩, HC3, HT3, HG3⟩
                      case round =>
                        obtain ⟨i, rfl, HI, HCi, HTi, HGi⟩ := hrel
                        clear HC3 HT3 HG3
                        cases gk with
                        | zero => have := HI.out; omega
                        | succ k2 =>
                          by_cases hi : i < 4
                          · have HI' := Lib.hid (show i < 4 ∧ 4 < (k2 + 1) + i from ⟨hi, HI.out.2⟩)
                            have i0 : (i : Int) < 4 := by omega
                            have i1 : (0 : Int) ≤ (i : Int) := by omega
                            clear hi HI
                            obtain ⟨xa, hxa⟩ : ∃ xa, xa = (WS key n).getD (4 * n + i) 0 := ⟨_, rfl⟩
                            obtain ⟨xb, hxb⟩ : ∃ xb, xb = (tmpW (WS key n) (n + 4)).getD i 0 := ⟨_, rfl⟩
                            have Hxa := Lib.hid hxa
                            have Hxb := Lib.hid hxb
                            have c1 := gw HCi.out.lt (wrd_cell HCi.out HK.out (i := 4 * n + i) (j := 532 + n * 4 + i) (x := xa) (by have := HI'.out; have := HJ'.out; omega) (by omega) ((wQ_get HK.out i (by have := HI'.out; omega)).trans hxa.symm))
                            have c2 := gw HTi.out.lt (show wr.cell? ⟨g6, i, none⟩ = some (.int .u8 (xb : Nat)) from by rw [hxb]; exact HTi.out.cell (by rw [tmpW_len]; exact HI'.out.1))
                            have x1 := xor_u8 xa xb (by rw [hxa]; exact getD_lt0 (by decide) _ (WS_lt HK8.out n)) (by rw [hxb]; exact getD_lt0 (by decide) _ (tmpW_lt (WS_lt HK8.out n) _))
                            clear hxa hxb
                            go_wp2_with fail
                            refine Q.wp_region_segsF none [] [0, 1, 2, 3, 4, 5, 6, 7, 8, 9, 10, 11, 12, 13, 14, 15, 16, 17, 18, 19] 20 (by kernel_rfl) (by kernel_rfl) (by kernel_rfl) (by kernel_rfl) ?_
                            dsimp only [Q.wpSegsF, Q.picks, Q.pick]
                            repeat (go_big_quiet_step (fail))
                            refine wpQuiet_nil ?_
                            clear c1 c2
                            have c1 := HCi.out.drew.cat (i := 528 + (16 + 4 * n + i)) (j := 532 + (n + 4) * 4 + i) (by have := HI'.out; have := HJ'.out; omega) (by omega)
                            have f1 := HCi.out.drew.fz (532 + (n + 4) * 4 + i)
                            go_wp2_with fail
                            refine NoPanic.normal ?_
                            clear c1 f1
                            go_wp2_with fail
                            go_roundg k2
                            case measure => have := HI'.out; omega
                            case rel =>
                              have hs := HCi.out.drew.sat (i := 528 + (16 + 4 * n + i)) (j := 532 + (n + 4) * 4 + i) (by have := HI'.out; have := HJ'.out; omega) (by omega) (xa ^^^ xb)
                              rw [MM_set_ws HK.out boxT_len twT_len, Hxa.out, Hxb.out, ← nxtW_get _ n HI'.out.1, wQ_set HK.out HWs.out HJ'.out.1 HI'.out.1, nxtW_get _ n HI'.out.1, ← Hxa.out, ← Hxb.out] at hs
                              exact ⟨i + 1, by go_num, Lib.hid (by have := HI'.out; omega), Lib.hid hs, Lib.hid (HTi.out.drew.other (by have := Hne.out; omega)), Lib.hid ((HGi.out.trans (gdrew wr _)).trans (gset _ b _ _))⟩
                          · obtain rfl : i = 4 := by have := HI.out; omega
                            clear hi HI
                            have HC4 := Lib.hid (show CB b dn st made (MM key boxT twT (wP key ws (n + 1))) tn wr from by have := HCi.out; rwa [wQ_four] at this)
                            clear HCi HTi
                            go_wp2_with fail
                            go_roundg k
                            case measure => have := HJ'.out; omega
                            case rel => exact ⟨n + 1, by rw [HPW.out], by go_num, Lib.hid (by have := HJ'.out; omega), HC4, HGi⟩
                    · have m1 : ¬ (n : Int) % 4 = 0 := by omega
                      have m2 : ¬ ((n : Int) + 4) % 4 = 0 := by omega
                      have m3 : ¬ ((n : Int) + 4).tmod 4 = 0 := by rw [Int.tmod_eq_emod_of_nonneg (by omega)]; omega
                      have HTT := Lib.hid (show tmpW (WS key n) (n + 4) = [a0, a1, a2, a3] from by
                        rw [tmpW, if_neg (by omega), show n + 4 - 1 = n + 3 from by omega, HE.out.1, HE.out.2.1, HE.out.2.2.1, HE.out.2.2.2])
                      have HPW := Lib.hid (show pw ((n + 1 + 3) / 4) = pw ((n + 3) / 4) from by rw [show (n + 1 + 3) / 4 = (n + 3) / 4 from by omega])
                      clear h4
                      go_wp2_with (first
                        | (refine load_midA b (532 + (n + 3) * 4) [a0, a1, a2, a3] rfl rfl rfl HR4.out Try.underlying36 info_w4 ?_)
                        | (refine store_ab .u8 wr.heap.size [0, 0, 0, 0] [a0, a1, a2, a3] rfl rfl rfl rfl rfl (AB.mk wr .u8 _ _) info_w4 rfl ?_; intro w3 h3 hg3; (have HT := Lib.hid h3); (have HB3 := Lib.hid (below_new hg3)); clear h3 hg3))
                      have HC4 := Lib.hid (show CB b dn st made (MM key boxT twT (wP key ws n)) tn w3 from HC.out.below HB3.out.1)
                      have HG3 := Lib.hid (HG.out.trans (grown_below HB3.out.1 (some b)))
                      have Hne := Lib.hid HC.out.lt
                      clear HC HG HR4 HB3
                      generalize wr.heap.size = g6 at *
                      have HT3 := Lib.hid (show AB .u8 36 g6 (tmpW (WS key n) (n + 4)) w3 from by rw [HTT.out]; exact HT.out)
                      have hcw := HC4.out
                      rw [← wQ_zero] at hcw
                      have HC3 := Lib.hid hcw
                      clear hcw HC4 HT HTT m1 m2 m3
                      go_loopg [88] 6 (fun g v88 w' => ∃ i : Nat, v88 = .int .i64 (i : Int) ∧ Hid (i ≤ 4 ∧ 4 < g + i) ∧ Hid (CB b dn st made (MM key boxT twT (wQ key ws n i)) tn w') ∧ Hid (AB .u8 36 g6 (tmpW (WS key n) (n + 4)) w') ∧ Hid (w.grownBy w' (some b)))
                      case atStart => exact ⟨0, rfl, Lib.hid ⟨by omega, by omega⟩, HC3, HT3, HG3⟩
                      case round =>
                        obtain ⟨i, rfl, HI, HCi, HTi, HGi⟩ := hrel
                        clear HC3 HT3 HG3
                        cases gk with
                        | zero => have := HI.out; omega
                        | succ k2 =>
                          by_cases hi : i < 4
                          · have HI' := Lib.hid (show i < 4 ∧ 4 < (k2 + 1) + i from ⟨hi, HI.out.2⟩)
                            have i0 : (i : Int) < 4 := by omega
                            have i1 : (0 : Int) ≤ (i : Int) := by omega
                            clear hi HI
                            obtain ⟨xa, hxa⟩ : ∃ xa, xa = (WS key n).getD (4 * n + i) 0 := ⟨_, rfl⟩
                            obtain ⟨xb, hxb⟩ : ∃ xb, xb = (tmpW (WS key n) (n + 4)).getD i 0 := ⟨_, rfl⟩
                            have Hxa := Lib.hid hxa
                            have Hxb := Lib.hid hxb
                            have c1 := gw HCi.out.lt (wrd_cell HCi.out HK.out (i := 4 * n + i) (j := 532 + n * 4 + i) (x := xa) (by have := HI'.out; have := HJ'.out; omega) (by omega) ((wQ_get HK.out i (by have := HI'.out; omega)).trans hxa.symm))
                            have c2 := gw HTi.out.lt (show wr.cell? ⟨g6, i, none⟩ = some (.int .u8 (xb : Nat)) from by rw [hxb]; exact HTi.out.cell (by rw [tmpW_len]; exact HI'.out.1))
                            have x1 := xor_u8 xa xb (by rw [hxa]; exact getD_lt0 (by decide) _ (WS_lt HK8.out n)) (by rw [hxb]; exact getD_lt0 (by decide) _ (tmpW_lt (WS_lt HK8.out n) _))
                            clear hxa hxb
                            go_wp2_with fail
                            refine Q.wp_region_segsF none [] [0, 1, 2, 3, 4, 5, 6, 7, 8, 9, 10, 11, 12, 13, 14, 15, 16, 17, 18, 19] 20 (by kernel_rfl) (by kernel_rfl) (by kernel_rfl) (by kernel_rfl) ?_
                            dsimp only [Q.wpSegsF, Q.picks, Q.pick]
                            repeat (go_big_quiet_step (fail))
                            refine wpQuiet_nil ?_
                            clear c1 c2
                            have c1 := HCi.out.drew.cat (i := 528 + (16 + 4 * n + i)) (j := 532 + (n + 4) * 4 + i) (by have := HI'.out; have := HJ'.out; omega) (by omega)
                            have f1 := HCi.out.drew.fz (532 + (n + 4) * 4 + i)
                            go_wp2_with fail
                            refine NoPanic.normal ?_
                            clear c1 f1
                            go_wp2_with fail
                            go_roundg k2
                            case measure => have := HI'.out; omega
                            case rel =>
                              have hs := HCi.out.drew.sat (i := 528 + (16 + 4 * n + i)) (j := 532 + (n + 4) * 4 + i) (by have := HI'.out; have := HJ'.out; omega) (by omega) (xa ^^^ xb)
                              rw [MM_set_ws HK.out boxT_len twT_len, Hxa.out, Hxb.out, ← nxtW_get _ n HI'.out.1, wQ_set HK.out HWs.out HJ'.out.1 HI'.out.1, nxtW_get _ n HI'.out.1, ← Hxa.out, ← Hxb.out] at hs
                              exact ⟨i + 1, by go_num, Lib.hid (by have := HI'.out; omega), Lib.hid hs, Lib.hid (HTi.out.drew.other (by have := Hne.out; omega)), Lib.hid ((HGi.out.trans (gdrew wr _)).trans (gset _ b _ _))⟩
                          · obtain rfl : i = 4 := by have := HI.out; omega
                            clear hi HI
                            have HC4 := Lib.hid (show CB b dn st made (MM key boxT twT (wP key ws (n + 1))) tn wr from by have := HCi.out; rwa [wQ_four] at this)
                            clear HCi HTi
                            go_wp2_with fail
                            go_roundg k
                            case measure => have := HJ'.out; omega
                            case rel => exact ⟨n + 1, by rw [HPW.out], by go_num, Lib.hid (by have := HJ'.out; omega), HC4, HGi⟩
                  · obtain rfl : n = 40 := by have := HJ.out; omega
                    clear hi HJ
                    have hc := HC.out
                    rw [wP_all HK.out HWs.out] at hc
                    have HC2 := Lib.hid hc
                    go_wp2_with fail
                    go_end0
                    exact ⟨rfl, HC2.out, HG.out⟩
end Go.Proofs.Ytblnclooobggnaa.A
