/-
  aes: New, mix, Words.
-/
import Derived.Test.YtblnclooobggnaaAf
namespace Go.Proofs.Ytblnclooobggnaa.A
open Go.RowKit Go.Proofs.Ytblnclooobggnaa.L Go.Proofs.Ytblnclooobggnaa.N Go.Proofs.YtblnclooobggnaaW.PrintWords

theorem len16 {key : List Nat} (h : key.length = 16) : ∃ k0 k1 k2 k3 k4 k5 k6 k7 k8 k9 k10 k11 k12 k13 k14 k15, key = [k0, k1, k2, k3, k4, k5, k6, k7, k8, k9, k10, k11, k12, k13, k14, k15] := by
  match key, h with
  | [k0, k1, k2, k3, k4, k5, k6, k7, k8, k9, k10, k11, k12, k13, k14, k15], _ => exact ⟨k0, k1, k2, k3, k4, k5, k6, k7, k8, k9, k10, k11, k12, k13, k14, k15, rfl⟩
theorem build_new {key : List Nat} (h : key.length = 16) (W : World) : (Instr.build tC #[(1, .bool true), (2, .agg (arr .u8 key))]).run Try.prog W = .ok (.agg (CC 0 0 true (MM key z256 z256 z176) 0).toArray) W := by
  obtain ⟨k0, k1, k2, k3, k4, k5, k6, k7, k8, k9, k10, k11, k12, k13, k14, k15, rfl⟩ := len16 h
  kernel_rfl
theorem new_cells {key : List Nat} (h : key.length = 16) : Array.foldl (fun cs x => cs.setIfInBounds (4 + x.snd) x.fst) (Try.zeroCells59.setIfInBounds 3 (Value.bool true)) (arr IntKind.u8 key).zipIdx 0 16 = (CC 0 0 true (MM key z256 z256 z176) 0).toArray := by
  obtain ⟨k0, k1, k2, k3, k4, k5, k6, k7, k8, k9, k10, k11, k12, k13, k14, k15, rfl⟩ := len16 h
  kernel_rfl
theorem heap_alloc_new' (w : World) (o : Obj) {b : Nat} (hb : b = w.heap.size) : (w.alloc o).heap[b]? = some o := by rw [hb]; exact heap_alloc_new w o
theorem info_key : (Try.prog.info? 27).map (·.size) = some 16 := by kernel_rfl
theorem MM0_len {key : List Nat} (h : key.length = 16) : (MM key z256 z256 z176).length = 704 := MM_len h List.length_replicate List.length_replicate List.length_replicate
theorem build_at {P : Program} {ops : Array Oper} {Q : Exit → Act → World → Prop} {rest : List Oper} {a : Act} {w : World} {o : Oper} {t : TypeId} {parts : Array (Nat × Operand)} (ps : Array (Nat × Value)) (v : Value) (hgd : o.guard = none) (ho : o.op = .build t parts) (hp : (parts.map fun (i, x) => (i, a.eval x)) = ps) (hr : (Instr.build t ps).run P w = .ok v w)
    (h : wpList P ops Q rest (a.put o.dst v) w) : wpList P ops Q (o :: rest) a w := by
  refine wpList_plain hgd fun K hK => ?_
  unfold Oper.wp
  have he : (execOp a.eval o).run P w = .ok (.value v) w := by
    simp only [execOp, ho, hp, Sem.run_bind, Sem.run_pure, hr, Result.andThen]
  rw [he]
  exact hK _ _ h
set_option maxRecDepth 100000 in
set_option maxHeartbeats 1600000 in
theorem new_any (key : List Nat) (w : World) (hk : key.length = 16) : Calls Try.prog 16 #[.agg (arr .u8 key)] w fun e w' => ∃ b, e = .returned (.pointer (some ⟨b, 0, none⟩)) ∧ w.heap.size ≤ b ∧ CU b key 0 w' ∧ Below w.heap.size w w' := by
  have hsz : (arr .u8 key).size = 16 := by rw [arr_size]; exact hk
  have HK := Lib.hid hk
  clear hk
  go_enter Try.func16, Try.ntmps16
  go_wp2_with (refine load_ab .u8 w.heap.size key rfl rfl rfl (AB.mk w .u8 _ key) Try.underlying27 (by rw [HK.out]; exact info_key) ?_)
  refine bodyPost_ret (v := .pointer (some ⟨w.heap.size + 1, 0, none⟩)) (by simp [results, Try.results16]) rfl ⟨_, rfl, Nat.le_succ _, .inr ⟨?_, MM0_len HK.out⟩, ?_⟩
  · refine (heap_alloc_new' _ _ (by simp)).trans ?_
    rw [← new_cells HK.out]
  · exact ((Below.refl _ _).alloc (Nat.le_refl _) _).alloc (by simp) _
def mixB (a : List Nat) (i : Nat) : Nat := (a.getD i 0 ^^^ (((a.getD 0 0 ^^^ a.getD 1 0) ^^^ a.getD 2 0) ^^^ a.getD 3 0)) ^^^ dbl (a.getD i 0 ^^^ a.getD ((i + 1) % 4) 0)
def mixN (a : List Nat) : List Nat := (List.range 4).map (mixB a)
theorem mixN_len (a : List Nat) : (mixN a).length = 4 := by simp [mixN]
theorem mixN_get (a : List Nat) {i : Nat} (h : i < 4) : (mixN a).getD i 0 = mixB a i := by
  unfold mixN
  rw [List.getD_eq_getElem?_getD, List.getElem?_map, List.getElem?_range h]
  rfl
theorem mixB_lt {a : List Nat} (h : ∀ x ∈ a, x < 256) (i : Nat) : mixB a i < 256 := by
  have g : ∀ j, a.getD j 0 < 256 := fun j => getD_lt0 (by decide) j h
  exact xor8 (xor8 (g _) (xor8 (xor8 (xor8 (g _) (g _)) (g _)) (g _))) (dbl_lt (xor8 (g _) (g _)))
theorem mixN_lt {a : List Nat} (h : ∀ x ∈ a, x < 256) : ∀ x ∈ mixN a, x < 256 := fun x hx => by
  obtain ⟨i, _, rfl⟩ := List.mem_map.1 hx
  exact mixB_lt h i
theorem tw_cell {b : Nat} {dn st tn : Int} {made : Bool} {key : List Nat} {w : World} (h : CB b dn st made (MF key) tn w) (hk : key.length = 16) {i : Nat} (hi : i < 256) : w.cell? ⟨b, 276 + i, none⟩ = some (.int .u8 (dbl i : Nat)) := by
  have := h.cat (i := 272 + i) (j := 276 + i) (by omega) (by omega)
  rw [MF, MM_tw hk boxT_len twT_len hi, twT_get hi] at this
  exact this
abbrev z4 : List Nat := [0, 0, 0, 0]
set_option maxRecDepth 100000 in
set_option maxHeartbeats 3200000 in
theorem mix_any (b : Nat) (tn : Int) (key a : List Nat) (w : World) (h : CB b 1 0 true (MF key) tn w) (hk : key.length = 16) (ha : a.length = 4) (ha8 : ∀ x ∈ a, x < 256) :
    Calls Try.prog 39 #[.pointer (some ⟨b, 0, none⟩), .agg (arr .u8 a)] w fun e w' => e = .returned (.agg (arr .u8 (mixN a))) ∧ Below w.heap.size w w' := by
  have HC := Lib.hid h
  have HBl := Lib.hid h.lt
  have HK := Lib.hid hk
  have HA := Lib.hid ha
  have HA8 := Lib.hid ha8
  have HML := Lib.hid (mixN_len a)
  have HMG := Lib.hid (fun i => mixN_get a (i := i))
  obtain ⟨M, hM⟩ : ∃ M, mixN a = M := ⟨_, rfl⟩
  rw [hM] at HML
  have HMG := Lib.hid (show ∀ i, i < 4 → M.getD i 0 = mixB a i from fun i hi => by rw [← hM]; exact mixN_get a hi)
  rw [hM]
  clear h hk ha ha8 hM
  go_enter Try.func39, Try.ntmps39
  go_upto_region 1 with (fail)
  refine wp_at fun W hW => ?_
  obtain ⟨h2, h4, hb, hsz⟩ := two_ab (k := .u8) (k' := .u8) a z4 hW
  have HT3 := Lib.hid h2
  have HT4 := Lib.hid h4
  have HB := Lib.hid hb
  have HZ := Lib.hid hsz
  have HC1 := Lib.hid (HC.out.below hb)
  clear hW h2 h4 hb hsz HC
  obtain ⟨a0, e0⟩ : ∃ x, a.getD 0 0 = x := ⟨_, rfl⟩
  obtain ⟨a1, e1⟩ : ∃ x, a.getD 1 0 = x := ⟨_, rfl⟩
  obtain ⟨a2, e2⟩ : ∃ x, a.getD 2 0 = x := ⟨_, rfl⟩
  obtain ⟨a3, e3⟩ : ∃ x, a.getD 3 0 = x := ⟨_, rfl⟩
  have g0 : a0 < 256 := e0 ▸ getD_lt0 (l := a) (by decide : 0 < 256) 0 HA8.out
  have g1 : a1 < 256 := e1 ▸ getD_lt0 (l := a) (by decide : 0 < 256) 1 HA8.out
  have g2 : a2 < 256 := e2 ▸ getD_lt0 (l := a) (by decide : 0 < 256) 2 HA8.out
  have g3 : a3 < 256 := e3 ▸ getD_lt0 (l := a) (by decide : 0 < 256) 3 HA8.out
  have c0 : W.cell? ⟨w.heap.size, 0, none⟩ = some (.int .u8 (a0 : Nat)) := e0 ▸ HT3.out.cell (i := 0) (by rw [HA.out]; decide)
  have c1 : W.cell? ⟨w.heap.size, 1, none⟩ = some (.int .u8 (a1 : Nat)) := e1 ▸ HT3.out.cell (i := 1) (by rw [HA.out]; decide)
  have c2 : W.cell? ⟨w.heap.size, 2, none⟩ = some (.int .u8 (a2 : Nat)) := e2 ▸ HT3.out.cell (i := 2) (by rw [HA.out]; decide)
  have c3 : W.cell? ⟨w.heap.size, 3, none⟩ = some (.int .u8 (a3 : Nat)) := e3 ▸ HT3.out.cell (i := 3) (by rw [HA.out]; decide)
  have x1 := xor_u8 _ _ g0 g1
  have y1 := xor8 g0 g1
  have x2 := xor_u8 _ _ y1 g2
  have y2 := xor8 y1 g2
  have x3 := xor_u8 _ _ y2 g3
  have y3 := xor8 y2 g3
  have HMB := Lib.hid (show ∀ i, mixB a i = (a.getD i 0 ^^^ (((a0 ^^^ a1) ^^^ a2) ^^^ a3)) ^^^ dbl (a.getD i 0 ^^^ a.getD ((i + 1) % 4) 0) from fun i => by rw [mixB, e0, e1, e2, e3])
  generalize a0 ^^^ a1 ^^^ a2 ^^^ a3 = al at *
  have HL := Lib.hid y3
  clear y1 y2 y3 g0 g1 g2 g3 e0 e1 e2 e3
  have hz := HZ.out
  go_upto_region 3 with (fail)
  clear c0 c1 c2 c3 x1 x2 x3 hz
  refine wp_at fun W2 hW2 => ?_
  have HBn := Lib.hid (show Below W.heap.size W W2 from by rw [hW2]; exact (Below.refl _ _).alloc (Nat.le_refl _) _)
  have HT6 := Lib.hid (show AB .u8 36 W.heap.size z4 W2 from by rw [hW2]; exact AB.mk W .u8 _ _)
  have HT3' := Lib.hid (HT3.out.below HT3.out.lt HBn.out)
  have HT4' := Lib.hid (HT4.out.below HT4.out.lt HBn.out)
  have HC2 := Lib.hid (HC1.out.below HBn.out)
  have HB2 := Lib.hid (show Below w.heap.size w W2 from HB.out.trans ⟨HBn.out.os, HBn.out.tape, HBn.out.output, HBn.out.size, fun k hk => HBn.out.block k (by have := HZ.out; omega)⟩)
  rw [HZ.out] at HT6
  clear HBn HB HC1 HT3 HT4 hW2
  have HT3 := HT3'
  have HT4 := HT4'
  have HS2 := Lib.hid (show w.heap.size + 3 ≤ W2.heap.size from HT6.out.lt)
  clear HT3' HT4'
  generalize hn : w.heap.size = n0 at *
  have Hn := Lib.hid hn
  clear hn HZ
  go_wp2_with fail
  go_loopg [19] 6 (fun g v19 w' => ∃ i : Nat, v19 = .int .i64 (i : Int) ∧ Hid (i ≤ 4 ∧ 4 < g + i) ∧ Hid (AB .u8 36 n0 a w') ∧ Hid (AB .u8 36 (n0 + 1) z4 w') ∧ Hid (AB .u8 36 (n0 + 2) (fl M i) w') ∧ Hid (CB b 1 0 true (MF key) tn w') ∧ Hid (Below n0 w w'))
  case atStart => exact ⟨0, rfl, Lib.hid ⟨by omega, by omega⟩, HT3, HT4, Lib.hid (by rw [fl_zero, HML.out]; exact HT6.out), HC2, HB2⟩
  case round =>
    obtain ⟨i, rfl, HJ, H3, H4, H6, HC, HBw⟩ := hrel
    clear HT3 HT4 HT6 HC2 HB2
    cases gk with
    | zero => have := HJ.out; omega
    | succ k =>
      by_cases hi : i < 4
      · have HJ' := Lib.hid (show i < 4 ∧ 4 < (k + 1) + i from ⟨hi, HJ.out.2⟩)
        obtain ⟨m, hm⟩ : ∃ m, m = (i + 1) % 4 := ⟨_, rfl⟩
        have hm4 : m < 4 := by omega
        have z0 : (i : Int) < 4 := by omega
        have z1 : (0 : Int) ≤ (i : Int) := by omega
        have z2 : (m : Int) < 4 := by omega
        have z3 : (0 : Int) ≤ (m : Int) := by omega
        have r1 : ((i : Int) + 1) % 4 = (m : Int) := by omega
        have r2 : ((i : Int) + 1).tmod 4 = (m : Int) := by rw [Int.tmod_eq_emod_of_nonneg (by omega)]; omega
        have HMi := Lib.hid (show M.getD i 0 = (a.getD i 0 ^^^ al) ^^^ dbl (a.getD i 0 ^^^ a.getD m 0) from by rw [HMG.out i hi, HMB.out, hm])
        have p1 := H3.out.cell (i := i) (by rw [HA.out]; exact hi)
        have p2 := H3.out.cell (i := m) (by rw [HA.out]; exact hm4)
        have g1 := getD_lt0 (l := a) (by decide : 0 < 256) i HA8.out
        have g2 := getD_lt0 (l := a) (by decide : 0 < 256) m HA8.out
        generalize a.getD i 0 = xi at *
        generalize a.getD m 0 = xm at *
        have x1 := xor_u8 xi al g1 HL.out
        have y1 := xor8 g1 HL.out
        have x2 := xor_u8 xi xm g1 g2
        have y2 := xor8 g1 g2
        generalize xi ^^^ al = xa at *
        generalize xi ^^^ xm = xk at *
        have HCl := Lib.hid (show b < n0 from by have := HBl.out; exact this)
        have p3 := tw_cell HC.out HK.out y2
        have x3 := xor_u8 xa (dbl xk) y1 (dbl_lt y2)
        have z9 : (xk : Int) < 256 := by omega
        have q1 := gw H3.out.lt p1
        have q2 := gw H3.out.lt p2
        have q3 := gw HC.out.lt p3
        clear hm hm4 hi HJ p1 p2 p3 g1 g2 y1 y2
        go_wp2_with fail
        refine Q.wp_region_segsF none [] [0, 1, 2, 3, 4, 5, 6, 7, 8, 9, 10, 11, 12, 13, 14, 15, 16, 17, 18, 19, 20, 21] 22 (by kernel_rfl) (by kernel_rfl) (by kernel_rfl) (by kernel_rfl) ?_
        dsimp only [Q.wpSegsF, Q.picks, Q.pick]
        repeat (go_big_quiet_step (fail))
        refine wpQuiet_nil ?_
        clear q1 q2 q3 x1 x2 x3
        have c0 := H6.out.drew.cell (i := i) (by rw [fl_length M (by rw [HML.out]; have := HJ'.out; omega), HML.out]; exact HJ'.out.1)
        have f0 := H6.out.drew.fz i
        go_wp2_with fail
        refine NoPanic.normal ?_
        clear c0 f0
        go_wp2_with fail
        go_roundg k
        case measure => have := HJ'.out; omega
        case rel =>
          have hs := H6.out.drew.set i (xa ^^^ dbl xk)
          rw [← HMi.out, fl_step (by rw [HML.out]; exact HJ'.out.1), HMi.out] at hs
          exact ⟨i + 1, by go_num, Lib.hid (by have := HJ'.out; omega), Lib.hid (H3.out.drew.other (by omega)), Lib.hid (H4.out.drew.other (by omega)), Lib.hid hs, Lib.hid (HC.out.drew.grown (gset _ (n0 + 2) _ _) (by have := HCl.out; omega)), Lib.hid ((HBw.out.drew).setCell (p := ⟨n0 + 2, i, none⟩) (by show n0 ≤ n0 + 2; omega) _)⟩
      · obtain rfl : i = 4 := by have := HJ.out; omega
        clear hi HJ
        have H6' := Lib.hid (show AB .u8 36 (n0 + 2) M wr from by have := H6.out; have e := fl_all M; rw [HML.out] at e; rwa [e] at this)
        have hi4 := info_w4
        rw [← HML.out] at hi4
        have Hi := Lib.hid hi4
        clear hi4 H6
        go_wp2_with (first
          | (refine load_ab .u8 (n0 + 2) M rfl rfl rfl H6'.out Try.underlying36 Hi.out ?_)
          | (refine store_ab .u8 (n0 + 1) z4 M rfl rfl rfl rfl rfl H4.out Hi.out HML.out.symm ?_; intro w9 h9 hg9; (have H9 := Lib.hid h9); (have HB9 := Lib.hid (below_grown HBw.out (by have := H3.out.lt; omega) hg9 (Nat.le_succ _))); clear h9 hg9))
        have hl := H9.out.load (P := Try.prog) Try.underlying36 Hi.out
        exact bodyPost_ret (v := .agg (arr .u8 M)) (by simp [results, Try.results39, hl, Act.put, asAddr]) rfl ⟨rfl, by rw [Hn.out]; exact HB9.out⟩
end Go.Proofs.Ytblnclooobggnaa.A
