/-
  keys: the law KeysLive, walked.
-/
import Derived.Test.YtigbmbmngkmdlaaKg
import Derived.Test.YtigbmbmngkmdlaaKf
import Derived.Test.YtigbmbmngkmdlaaQs
namespace Go.Proofs.Ytigbmbmngkmdlaa.Ke
open Go.RowKit Go.Proofs.Ytigbmbmngkmdlaa.L Go.Proofs.YtigbmbmngkmdlaaW.PrintWords

theorem St.sk {b k : Nat} {n m : Int} {l : List Int} {w w1 : World} (h : St b n l w) (hk : Sk k m w) (hg : w.grownBy w1 (some k)) : St b n l w1 := h.sink hk hg
theorem Sk.st {b k : Nat} {n m : Int} {l : List Int} {w w1 : World} (hk : Sk k m w) (h : St b n l w) (hg : w.grownBy w1 (some b)) : Sk k m w1 := hk.stream h hg
/-- a call that is told, in memory -/
def Bx (b : Nat) (cs : Array Value) (w : World) : Prop := w.heap[b]? = some (.cells cs 43 (0, 0))
theorem Bx.lt {b : Nat} {cs : Array Value} {w : World} (h : Bx b cs w) : b < w.heap.size := (Array.getElem?_eq_some_iff.1 h).1
theorem Bx.below {b : Nat} {cs : Array Value} {w w1 : World} (h : Bx b cs w) (hb : Below w.heap.size w w1) : Bx b cs w1 := (hb.block b h.lt).trans h
theorem Bx.st {b bs : Nat} {cs : Array Value} {m : Int} {l : List Int} {w w1 : World} (h : Bx b cs w) (hS : St bs m l w) (hg : w.grownBy w1 (some bs)) : Bx b cs w1 := by
  obtain ⟨_, _, hs, _⟩ := hS
  exact (hg.block b h.lt (fun e => obj_ne (show w.heap[b]? = _ from h) hs (by decide) (by injection e))).trans h
theorem Bx.rf {b bs : Nat} {cs : Array Value} {m : Int} {l : List Int} {w w1 : World} (h : Bx b cs w) (hS : Rf bs l m w) (hg : w.grownBy w1 (some bs)) : Bx b cs w1 := by
  obtain ⟨_, _, hs, _⟩ := hS
  exact (hg.block b h.lt (fun e => obj_ne (show w.heap[b]? = _ from h) hs (by decide) (by injection e))).trans h
theorem Bx.sk {b bs : Nat} {cs : Array Value} {m : Int} {w w1 : World} (h : Bx b cs w) (hS : Sk bs m w) (hg : w.grownBy w1 (some bs)) : Bx b cs w1 :=
  (hg.block b h.lt (fun e => obj_ne (show w.heap[b]? = _ from h) (show w.heap[bs]? = _ from hS) (by decide) (by injection e))).trans h
theorem Bx.ne_st {b bs : Nat} {cs : Array Value} {m : Int} {l : List Int} {w : World} (h : Bx b cs w) (hS : St bs m l w) : b ≠ bs := by
  obtain ⟨_, _, hs, _⟩ := hS
  exact obj_ne (show w.heap[b]? = _ from h) hs (by decide)
theorem Bx.ne_rf {b bs : Nat} {cs : Array Value} {m : Int} {l : List Int} {w : World} (h : Bx b cs w) (hS : Rf bs l m w) : b ≠ bs := by
  obtain ⟨_, _, hs, _⟩ := hS
  exact obj_ne (show w.heap[b]? = _ from h) hs (by decide)
theorem Bx.cells {b : Nat} {u v x : Value} {w : World} (h : Bx b #[u, v, x] w) : w.cell? ⟨b, 0, none⟩ = some u ∧ w.cell? ⟨b, 1, none⟩ = some v ∧ w.cell? ⟨b, 2, none⟩ = some x := by
  have h' : w.heap[b]? = _ := h
  exact ⟨by simp [World.cell?, h'], by simp [World.cell?, h'], by simp [World.cell?, h']⟩
theorem Bx.gw {b : Nat} {cs : Array Value} {W : World} {B : Nat} {row : Nat → Prop} (h : Bx b cs W) (m : Qs.GW W B row) (hB : b < B) (hr : ¬ row b) : Bx b cs m.w := (m.h.block b hB hr).trans h
theorem stR_len {kn fr : Int} {l : List Int} {L : List Int} {E K : Int} (h : stR kn fr l = (L, E, K)) : K = kn + L.length ∧ L.length ≤ 512 := by
  unfold stR at h
  split at h
  · simp only [Prod.mk.injEq] at h; obtain ⟨rfl, rfl, rfl⟩ := h; simp
  · split at h
    · simp only [Prod.mk.injEq] at h; obtain ⟨rfl, rfl, rfl⟩ := h; simp
    · split at h
      · simp only [Prod.mk.injEq] at h; obtain ⟨rfl, rfl, rfl⟩ := h; simp
      · simp only [Prod.mk.injEq] at h; obtain ⟨rfl, rfl, rfl⟩ := h; simp; omega
theorem scount_b (b : Nat) (n : Int) (w : World) (h : Sk b n w) : Calls Try.prog 33 #[.pointer (some ⟨b, 0, none⟩)] w fun e w' => e = .returned (.int .u64 n) ∧ Below w.heap.size w w' :=
  (scount_any b n w h).mono fun e w' hh => ⟨hh.1, by rw [hh.2]; exact Below.refl _ _⟩
theorem rtake_as (kn fr : Int) (l : List Int) (L : List Int) (E K : Int) (A : Option Addr) (c : Nat) (w : World) (hR : stR kn fr l = (L, E, K)) (hC : (Kd.int .u8).C w A l.length l) (h0 : 0 ≤ kn) (h1 : kn < 18446744073709551616) (hf : 0 ≤ fr) :
    Calls Try.prog 32 #[.int .u64 kn, .int .u64 fr, .slice A l.length c] w fun e w' => ∃ v0 : Value, e = .returned (.tuple #[v0, .int .i64 E]) ∧ (Kd.int .u8).R 5 w' w.heap.size (fun _ => True) v0 L ∧ Below w.heap.size w w' := by
  have := rtake_any kn fr l A c w hC h0 h1 hf
  rwa [hR] at this
theorem stake_ex (k : Nat) (kn fr : Int) (l : List Int) (L : List Int) (E K : Int) (A : Option Addr) (c : Nat) (w : World) (hR : stR kn fr l = (L, E, K)) (h : Sk k kn w) (hC : (Kd.int .u8).C w A l.length l) (hc : l.length ≤ c) (h0 : 0 ≤ kn) (h1 : kn + 1024 < 18446744073709551616) (hf : 0 ≤ fr) :
    Calls Try.prog 31 #[.pointer (some ⟨k, 0, none⟩), .int .u64 fr, .slice A l.length c] w fun e w' => ∃ v0 : Value, e = .returned (.tuple #[v0, .int .i64 E]) ∧ (Kd.int .u8).R 5 w' w.heap.size (fun _ => True) v0 L ∧ Sk k K w' ∧ w.grownBy w' (some k) := by
  have := stake_any k kn fr l A c w h hC hc h0 h1 hf
  rwa [hR] at this

set_option maxHeartbeats 12800000 in
set_option maxRecDepth 100000 in
theorem live_walk (l : List OpD) (A : Option Addr) (c : Nat) (w : World) (hC : kOp.C w A l.length l) (hok : ∀ o ∈ l, 0 ≤ o.2.1 ∧ o.2.1 < 18446744073709551616) :
    Calls Try.prog 5 #[.slice A l.length c] w fun e w' => e = .returned (.bool true) ∧ Below w.heap.size w w' := by
  have hu := Try.underlying43
  obtain ⟨hmx, ho⟩ := O_open hC
  have HO := Lib.hid ho
  have HOK := Lib.hid hok
  clear ho hC hok
  go_enter Try.func5, Try.ntmps5
  go_wp2_with fail
  refine (new_any _).mono ?_
  rintro e w1 ⟨bs, rfl, hs1, hl1, hb1⟩
  have HS := Lib.hid hs1.st
  have HLs := Lib.hid hl1
  have HB := Lib.hid hb1
  clear hs1 hl1 hb1
  go_wp2_with fail
  refine (sink_any _).mono ?_
  rintro e w2 ⟨bk, rfl, hk2, hl2, hb2⟩
  replace HS := Lib.hid (HS.out.below hb2)
  have HLk := Lib.hid (Nat.le_trans HB.out.size hl2)
  replace HB := Lib.hid (stay1 HB.out hb2)
  have HK := Lib.hid hk2
  clear hk2 hl2 hb2
  obtain ⟨w3, hw3⟩ : ∃ w3, w3 = w2.alloc (.cells #[.slice none 0 0, .int .u64 0] 54) := ⟨_, rfl⟩
  have hb3 : Below w2.heap.size w2 w3 := by rw [hw3]; exact (Below.refl _ _).alloc (Nat.le_refl _) _
  have HX := Lib.hid (show Rf w2.heap.size [] 0 w3 from ⟨none, 0, by rw [hw3]; exact heap_alloc_new w2 _, Nat.le_refl _, ⟨Kd.C_nil _ _, Ty.none_ _ _⟩⟩)
  have HLx := Lib.hid HB.out.size
  replace HS := Lib.hid (HS.out.below hb3)
  replace HK := Lib.hid (HK.out.below hb3)
  replace HB := Lib.hid (stay1 HB.out hb3)
  clear hb3
  go_wp2_with fail
  rw [← hw3]
  clear hw3
  generalize w2.heap.size = bx at HX HLx ⊢
  go_loopg [6, 7] (l.length + 1) (fun g v6 v7 w' => ∃ (i n kn : Nat) (T : List Int), v7 = .int .i64 i ∧ v6 = .int .u64 kn ∧ Hid (i ≤ l.length ∧ l.length < g + i ∧ i ≤ 60) ∧ Hid (n ≤ T.length ∧ T.length ≤ n + 512 ∧ T.length ≤ 600 * i ∧ kn ≤ 600 * i) ∧ Hid (St bs n (T.drop n) w') ∧ Hid (Rf bx T n w') ∧ Hid (Sk bk kn w') ∧ Hid (Below w.heap.size w w'))
  case atStart => exact ⟨0, 0, 0, [], rfl, rfl, Lib.hid ⟨by omega, by omega, by omega⟩, Lib.hid ⟨by simp, by simp, by simp, by simp⟩, HS, HX, HK, HB⟩
  case round =>
    clear HS HX HK HB
    obtain ⟨i, n, kn, T, rfl, rfl, HJ, HN, HS, HX, HK, HB⟩ := hrel
    cases gk with
    | zero => have := HJ.out; omega
    | succ g =>
      obtain ⟨hj1, hj2, hj3⟩ := HJ.out
      clear HJ
      by_cases hlt : i < l.length ∧ i < 60
      · obtain ⟨hlt, h60⟩ := hlt
        rcases HO.out with e | ⟨bo, off, rfl, _, hcells⟩
        · subst e; simp at hlt
        obtain ⟨c0, c1', Aj, cj, c2, hcj, hCj⟩ := hcells i hlt
        have hoki := HOK.out (l.getD i zOp) (by rw [List.getD_eq_getElem?_getD, List.getElem?_eq_getElem hlt]; exact List.getElem_mem hlt)
        clear hcells
        generalize l.getD i zOp = o at c0 c1' c2 hcj hCj hoki
        obtain ⟨kk, N0, by_⟩ := o
        simp only at c0 c1' c2 hcj hCj hoki
        obtain ⟨N, rfl⟩ := Int.eq_ofNat_of_zero_le hoki.1
        have HN64 := Lib.hid (show N < 18446744073709551616 by omega)
        have k0 := pw_cell_below HB.out c0
        have k1 := pw_cell_below HB.out c1'
        have k2 := pw_cell_below HB.out c2
        have HCj := Lib.hid hCj
        have HCK := Lib.hid hcj
        have HI := Lib.hid (show i < l.length ∧ i < 60 ∧ l.length < g + 1 + i from ⟨hlt, h60, hj2⟩)
        obtain ⟨y, hy⟩ : ∃ y, y = wr.alloc (.cells #[.int .i64 kk, .int .u64 N, .slice Aj by_.length cj] 43) := ⟨_, rfl⟩
        have hby : Below wr.heap.size wr y := by rw [hy]; exact (Below.refl _ _).alloc (Nat.le_refl _) _
        have HQ := Lib.hid (show Bx wr.heap.size #[.int .i64 kk, .int .u64 N, .slice Aj by_.length cj] y from by rw [hy]; exact heap_alloc_new wr _)
        replace HS := Lib.hid (HS.out.below hby)
        replace HX := Lib.hid (HX.out.below hby)
        replace HK := Lib.hid (HK.out.below hby)
        replace HB := Lib.hid (stay1 HB.out hby)
        clear c0 c1' c2 hCj hcj hoki hj1 hj2 hj3 hby
        by_cases h6 : (600 : Int) < (by_.length : Int)
        · have t6 : decide ((600 : Int) < (by_.length : Int)) = true := by simpa using h6
          clear h6
          go_wp2_with fail
          rw [← hy]
          clear hy
          refine (alive_any _).mono ?_
          rintro e w3 ⟨rfl, hb3⟩
          have HB3 := Lib.hid (stay1 HB.out hb3)
          clear hb3
          go_wp2
          go_ret
          exact ⟨rfl, HB3.out⟩
        have t6 : decide ((600 : Int) < (by_.length : Int)) = false := by simpa using h6
        have HBL := Lib.hid (show by_.length ≤ 600 by omega)
        clear h6
        have hkk : kk = 0 ∨ kk = 1 ∨ ((kk == 0) = false ∧ (kk == 1) = false) := by
          by_cases a : kk = 0
          · exact .inl a
          · by_cases b : kk = 1
            · exact .inr (.inl b)
            · exact .inr (.inr ⟨by simpa using a, by simpa using b⟩)
        obtain ⟨bo2, hbo2⟩ : ∃ b, wr.heap.size = b := ⟨_, rfl⟩
        rw [hbo2] at HQ
        have HBO := Lib.hid hbo2
        clear hbo2
        rcases hkk with rfl | rfl | ⟨hk0, hk1⟩
        · by_cases hf : T.length - n + by_.length ≤ 512
          · have HFF := Lib.hid hf
            have HAP := Lib.hid (drop_app (B := by_) HN.out.1)
            clear hf
            have b0 := HQ.out.cells.1
            have b1 := HQ.out.cells.2.1
            have b2 := HQ.out.cells.2.2
            rw [← HBO.out] at b0 b1 b2
            rw [hy] at b0 b1 b2
            go_wp2_with fail
            rw [← hy]
            rw [HBO.out]
            clear hy b0 b1 b2 k0 k1 k2
            have HNE := Lib.hid (HQ.out.ne_st HS.out)
            have HNX := Lib.hid (HQ.out.ne_rf HX.out)
            refine Qs.wp_region_segs (fun k => k = bs ∨ k = bx) [([0, 1, 2, 4, 5, 6], some 3), ([], some 7), ([8], none)] (by kernel_rfl) (by kernel_rfl) (by kernel_rfl) (by kernel_rfl) ?_
            dsimp only [Qs.wpSegs, Q.picks, Q.pick]
            replace HS := Lib.hid (HS.out.below (stay0 _))
            replace HX := Lib.hid (HX.out.below (stay0 _))
            replace HK := Lib.hid (HK.out.below (stay0 _))
            replace HB := Lib.hid (HB.out.drew)
            replace HQ := Lib.hid (HQ.out.below (stay0 _))
            have HLT := Lib.hid HQ.out.lt
            have g0 := fun (m : Qs.GW y.drew y.heap.size (fun k => k = bs ∨ k = bx)) => (HQ.out.gw m HLT.out (fun h => h.elim HNE.out HNX.out)).cells.1
            have g1 := fun (m : Qs.GW y.drew y.heap.size (fun k => k = bs ∨ k = bx)) => (HQ.out.gw m HLT.out (fun h => h.elim HNE.out HNX.out)).cells.2.1
            have g2 := fun (m : Qs.GW y.drew y.heap.size (fun k => k = bs ∨ k = bx)) => (HQ.out.gw m HLT.out (fun h => h.elim HNE.out HNX.out)).cells.2.2
            repeat (go_big_quiet_step (fail))
            refine wpQuiet_nil ?_
            clear g0 g1 g2
            go_wp2_with (go_at_call 24; refine (type_yes bs n (T.drop n) by_ Aj by_.length cj _ HS.out rfl (by have := HN.out; rw [List.length_drop]; omega) (by have := HFF.out; rw [List.length_drop]; omega) (Kd.C_below HCj.out HB.out)).mono ?_; rintro e w4 ⟨rfl, hs4, hg4⟩; (have HS4 := Lib.hid hs4); (have HG4 := Lib.hid hg4); clear hs4 hg4)
            refine Qs.ev_app (Qs.Gr.of_grown HG4.out (fun k hk => .inl (by injection hk with hk; exact hk.symm)) (Nat.le_refl _)) (Nat.le_refl _) (Qs.NewRow.self _ _) ?_
            replace HX := Lib.hid (HX.out.st HS.out HG4.out)
            replace HK := Lib.hid (HK.out.stream HS.out HG4.out)
            replace HB := Lib.hid (bgrow HB.out HG4.out HLs.out)
            replace HQ := Lib.hid (HQ.out.st HS.out HG4.out)
            replace HS := HS4
            clear HS4
            refine wpQuiet_nil ?_
            go_wp2_with (go_at_call 29; refine (rtype_yes bx n T by_ Aj cj _ HX.out (by omega) (by have := HN.out; omega) (by have := HN.out; have := HI.out; have := HBL.out; omega) (by have := HFF.out; have := HN.out; omega) (Kd.C_below HCj.out HB.out)).mono ?_; rintro e w5 ⟨rfl, hs5, hg5⟩; (have HX5 := Lib.hid hs5); (have HG5 := Lib.hid hg5); clear hs5 hg5)
            refine Qs.ev_app (Qs.Gr.of_grown HG5.out (fun k hk => .inr (by injection hk with hk; exact hk.symm)) HG4.out.size) (Nat.le_refl _) (Qs.NewRow.self _ _) ?_
            replace HS := Lib.hid (HS.out.rf HX.out HG5.out)
            replace HK := Lib.hid (HK.out.rf HX.out HG5.out)
            replace HB := Lib.hid (bgrow HB.out HG5.out HLx.out)
            replace HQ := Lib.hid (HQ.out.rf HX.out HG5.out)
            replace HX := HX5
            clear HX5 HG4 HG5 HNE HNX HLT
            repeat (go_big_quiet_step (fail))
            refine wpQuiet_nil ?_
            refine NoPanic.normal ?_
            rw [HAP.out] at HS
            clear HQ HBO
            have HNN := Lib.hid (show n ≤ ((T ++ by_)).length ∧ ((T ++ by_)).length ≤ n + 512 ∧ ((T ++ by_)).length ≤ 600 * (i + 1) ∧ kn ≤ 600 * (i + 1) from by have := HN.out; have := HFF.out; have := HBL.out; have hl : (T ++ by_).length = T.length + by_.length := List.length_append; omega)
            obtain ⟨T2, hT2⟩ : ∃ T2, (T ++ by_) = T2 := ⟨_, rfl⟩
            rw [hT2] at HS HX HNN
            clear hT2
            obtain ⟨D, hD⟩ : ∃ D, T2.drop n = D := ⟨_, rfl⟩
            have HDL := Lib.hid (show D.length = T2.length - n from by rw [← hD]; exact List.length_drop)
            rw [hD] at HS
            have HD := Lib.hid hD
            clear hD
            go_wp2_with fail
            refine (pending_any bs n D _ HS.out (by have := HDL.out; have := HNN.out; omega)).mono ?_
            rintro e w6 ⟨v6p, rfl, ho6p, hb6⟩
            replace HS := Lib.hid (HS.out.below hb6)
            replace HX := Lib.hid (HX.out.below hb6)
            replace HK := Lib.hid (HK.out.below hb6)
            replace HB := Lib.hid (stay1 HB.out hb6)
            obtain ⟨Ap, cp, rfl, hkp, hCp⟩ := Kd.R_reads ho6p
            have HPd := Lib.hid (CT.mk hCp (Ty_R ho6p))
            have KHPd := Lib.hid hkp
            clear ho6p hCp hkp
            clear hb6
            obtain ⟨A4, c4, hbx, hk4, hCT4⟩ := HX.out
            obtain ⟨i0, hi0, hz0⟩ := info_of info_u8
            obtain ⟨A5, c5, hcut, hc5, hread⟩ := cutf (P := Try.prog) .u8 .u64 25 5 Try.underlying25 hi0 hz0 A4 T2.length c4 (n : Int) (T2.length - n) (by omega) (by have := HNN.out; omega) hk4
            have hC5 := (hread _ T2 rfl hCT4.C).1
            rw [Int.toNat_natCast, HD.out] at hC5
            have HC5 := Lib.hid (show (Kd.int .u8).C w6 A5 D.length D from by rw [HDL.out]; exact hC5)
            rw [← HDL.out] at hcut
            have x0 := (cells_rf hbx).1
            have x1 := (cells_rf hbx).2.1
            clear hk4 hCT4 hread hC5 hc5 hi0 hz0 hbx
            have s1 : IntKind.u64.wrap (T2.length : Int) = T2.length := wraps_u64 _ (by omega) (by have := HNN.out; have := HI.out; omega)
            have z1 : (0 : Int) ≤ (n : Int) := by omega
            go_wp2_with fail
            refine Q.wp_region_segs none [([0, 1, 2, 3, 4, 5, 6, 7, 8, 9, 10, 11, 12, 13, 14, 15, 16, 17, 18, 19, 20, 21, 22, 24, 25, 26, 27, 28, 29], some 23), ([30, 31, 32, 33, 35], some 34), ([36, 37], none)] (by kernel_rfl) (by kernel_rfl) (by kernel_rfl) (by kernel_rfl) ?_
            dsimp only [Q.wpSegs, Q.picks, Q.pick]
            replace HS := Lib.hid (HS.out.below (stay0 _))
            replace HX := Lib.hid (HX.out.below (stay0 _))
            replace HK := Lib.hid (HK.out.below (stay0 _))
            replace HB := Lib.hid (HB.out.drew)
            replace HPd := Lib.hid (HPd.out.below (stay0 _))
            replace HC5 := Lib.hid (Kd.C_drew HC5.out)
            have q1 : ∀ m : Q.GW (w6).drew w6.heap.size none, (convert 25 9 (.slice Ap D.length cp)).run Try.prog m.w = .ok (.string (strOfNums D)) m.w := fun m => Kd.C_string Try.underlying25 Try.underlying5 Try.underlying9 (Kd.C_below HPd.out.C m.below)
            have q2 : ∀ m : Q.GW (w6).drew w6.heap.size none, (convert 25 9 (.slice A5 D.length c5)).run Try.prog m.w = .ok (.string (strOfNums D)) m.w := fun m => Kd.C_string Try.underlying25 Try.underlying5 Try.underlying9 (Kd.C_below HC5.out m.below)
            have q3 : ∀ m : Q.GW (w6).drew w6.heap.size none, m.w.cell? ⟨bx, 0, none⟩ = some (.slice A4 T2.length c4) := fun m => pw_cell_below (stay1 (stay0 w6) m.below) x0
            have q4 : ∀ m : Q.GW (w6).drew w6.heap.size none, m.w.cell? ⟨bx, 1, none⟩ = some (.int .u64 n) := fun m => pw_cell_below (stay1 (stay0 w6) m.below) x1
            repeat (go_big_quiet_step (fail))
            refine wpQuiet_nil ?_
            clear z1 hcut x0 x1
            clear q1 q2 q3 q4
            go_wp2_with (go_at_call 27; refine (count_as bs n D T2.length _ HS.out (by have := HNN.out; have := HDL.out; omega) (by have := HNN.out; have := HI.out; omega)).mono ?_; rintro e w7 ⟨rfl, hb7⟩; (have Hb7 := Lib.hid hb7); clear hb7)
            refine Q.ev_done Hb7.out (Nat.le_refl _) ?_
            replace HS := Lib.hid (HS.out.below Hb7.out)
            replace HX := Lib.hid (HX.out.below Hb7.out)
            replace HK := Lib.hid (HK.out.below Hb7.out)
            replace HB := Lib.hid (stay1 HB.out Hb7.out)
            replace HPd := Lib.hid (HPd.out.below Hb7.out)
            replace HC5 := Lib.hid (Kd.C_below HC5.out Hb7.out)
            clear Hb7
            repeat (go_big_quiet_step (fail))
            refine wpQuiet_nil ?_
            go_wp2_with (go_at_call 33; refine (scount_b bk kn _ HK.out).mono ?_; rintro e w8 ⟨rfl, hb8⟩; (have Hb8 := Lib.hid hb8); clear hb8)
            refine Q.ev_done Hb8.out (Nat.le_refl _) ?_
            replace HS := Lib.hid (HS.out.below Hb8.out)
            replace HX := Lib.hid (HX.out.below Hb8.out)
            replace HK := Lib.hid (HK.out.below Hb8.out)
            replace HB := Lib.hid (stay1 HB.out Hb8.out)
            replace HPd := Lib.hid (HPd.out.below Hb8.out)
            replace HC5 := Lib.hid (Kd.C_below HC5.out Hb8.out)
            clear Hb8
            repeat (go_big_quiet_step (fail))
            refine wpQuiet_nil ?_
            refine NoPanic.normal ?_
            clear s1
            go_wp2
            go_roundg g
            case measure => omega
            case rel => exact ⟨i + 1, n, kn, T2, by go_num, rfl, Lib.hid (by have := HI.out; omega), HNN, Lib.hid (by rw [HD.out]; exact HS.out), HX, HK, HB⟩
          · have HFF := Lib.hid hf
            clear hf
            have b0 := HQ.out.cells.1
            have b1 := HQ.out.cells.2.1
            have b2 := HQ.out.cells.2.2
            rw [← HBO.out] at b0 b1 b2
            rw [hy] at b0 b1 b2
            go_wp2_with fail
            rw [← hy]
            rw [HBO.out]
            clear hy b0 b1 b2 k0 k1 k2
            refine Q.wp_region_segs none [([0, 1, 2, 4, 5, 6], some 3), ([], some 7), ([8], none)] (by kernel_rfl) (by kernel_rfl) (by kernel_rfl) (by kernel_rfl) ?_
            dsimp only [Q.wpSegs, Q.picks, Q.pick]
            replace HS := Lib.hid (HS.out.below (stay0 _))
            replace HX := Lib.hid (HX.out.below (stay0 _))
            replace HK := Lib.hid (HK.out.below (stay0 _))
            replace HB := Lib.hid (HB.out.drew)
            replace HQ := Lib.hid (HQ.out.below (stay0 _))
            have q0 : ∀ m : Q.GW (y).drew y.heap.size none, m.w.cell? ⟨bo2, 0, none⟩ = some (.int .i64 0) := fun m => pw_cell_below m.below HQ.out.cells.1
            have q1 : ∀ m : Q.GW (y).drew y.heap.size none, m.w.cell? ⟨bo2, 1, none⟩ = some (.int .u64 N) := fun m => pw_cell_below m.below HQ.out.cells.2.1
            have q2 : ∀ m : Q.GW (y).drew y.heap.size none, m.w.cell? ⟨bo2, 2, none⟩ = some (.slice Aj by_.length cj) := fun m => pw_cell_below m.below HQ.out.cells.2.2
            repeat (go_big_quiet_step (fail))
            refine wpQuiet_nil ?_
            clear q0 q1 q2
            go_wp2_with (go_at_call 24; refine (type_no bs n (T.drop n) Aj by_.length cj _ HS.out (by have := HN.out; rw [List.length_drop]; omega) (by have := HFF.out; rw [List.length_drop]; omega)).mono ?_; rintro e wx ⟨rfl, rfl⟩)
            refine Q.ev_done (Below.refl _ _) (Nat.le_refl _) ?_
            refine wpQuiet_nil ?_
            go_wp2_with (go_at_call 29; refine (rtype_no bx n T Aj by_.length cj _ HX.out (by omega) (by have := HN.out; omega) (by have := HN.out; have := HI.out; have := HBL.out; omega) (by have := HFF.out; have := HN.out; omega)).mono ?_; rintro e w4 ⟨rfl, hb4⟩; (have Hb4 := Lib.hid hb4); clear hb4)
            refine Q.ev_done Hb4.out (Nat.le_refl _) ?_
            replace HS := Lib.hid (HS.out.below Hb4.out)
            replace HX := Lib.hid (HX.out.below Hb4.out)
            replace HK := Lib.hid (HK.out.below Hb4.out)
            replace HB := Lib.hid (stay1 HB.out Hb4.out)
            replace HQ := Lib.hid (HQ.out.below Hb4.out)
            clear Hb4
            repeat (go_big_quiet_step (fail))
            refine wpQuiet_nil ?_
            refine NoPanic.normal ?_
            clear HQ HBO
            have HNN := Lib.hid (show n ≤ (T).length ∧ (T).length ≤ n + 512 ∧ (T).length ≤ 600 * (i + 1) ∧ kn ≤ 600 * (i + 1) from by have := HN.out; omega)
            obtain ⟨T2, hT2⟩ : ∃ T2, T = T2 := ⟨_, rfl⟩
            rw [hT2] at HS HX HNN
            clear hT2
            obtain ⟨D, hD⟩ : ∃ D, T2.drop n = D := ⟨_, rfl⟩
            have HDL := Lib.hid (show D.length = T2.length - n from by rw [← hD]; exact List.length_drop)
            rw [hD] at HS
            have HD := Lib.hid hD
            clear hD
            go_wp2_with fail
            refine (pending_any bs n D _ HS.out (by have := HDL.out; have := HNN.out; omega)).mono ?_
            rintro e w5 ⟨v5p, rfl, ho5p, hb5⟩
            replace HS := Lib.hid (HS.out.below hb5)
            replace HX := Lib.hid (HX.out.below hb5)
            replace HK := Lib.hid (HK.out.below hb5)
            replace HB := Lib.hid (stay1 HB.out hb5)
            obtain ⟨Ap, cp, rfl, hkp, hCp⟩ := Kd.R_reads ho5p
            have HPd := Lib.hid (CT.mk hCp (Ty_R ho5p))
            have KHPd := Lib.hid hkp
            clear ho5p hCp hkp
            clear hb5
            obtain ⟨A4, c4, hbx, hk4, hCT4⟩ := HX.out
            obtain ⟨i0, hi0, hz0⟩ := info_of info_u8
            obtain ⟨A5, c5, hcut, hc5, hread⟩ := cutf (P := Try.prog) .u8 .u64 25 5 Try.underlying25 hi0 hz0 A4 T2.length c4 (n : Int) (T2.length - n) (by omega) (by have := HNN.out; omega) hk4
            have hC5 := (hread _ T2 rfl hCT4.C).1
            rw [Int.toNat_natCast, HD.out] at hC5
            have HC5 := Lib.hid (show (Kd.int .u8).C w5 A5 D.length D from by rw [HDL.out]; exact hC5)
            rw [← HDL.out] at hcut
            have x0 := (cells_rf hbx).1
            have x1 := (cells_rf hbx).2.1
            clear hk4 hCT4 hread hC5 hc5 hi0 hz0 hbx
            have s1 : IntKind.u64.wrap (T2.length : Int) = T2.length := wraps_u64 _ (by omega) (by have := HNN.out; have := HI.out; omega)
            have z1 : (0 : Int) ≤ (n : Int) := by omega
            go_wp2_with fail
            refine Q.wp_region_segs none [([0, 1, 2, 3, 4, 5, 6, 7, 8, 9, 10, 11, 12, 13, 14, 15, 16, 17, 18, 19, 20, 21, 22, 24, 25, 26, 27, 28, 29], some 23), ([30, 31, 32, 33, 35], some 34), ([36, 37], none)] (by kernel_rfl) (by kernel_rfl) (by kernel_rfl) (by kernel_rfl) ?_
            dsimp only [Q.wpSegs, Q.picks, Q.pick]
            replace HS := Lib.hid (HS.out.below (stay0 _))
            replace HX := Lib.hid (HX.out.below (stay0 _))
            replace HK := Lib.hid (HK.out.below (stay0 _))
            replace HB := Lib.hid (HB.out.drew)
            replace HPd := Lib.hid (HPd.out.below (stay0 _))
            replace HC5 := Lib.hid (Kd.C_drew HC5.out)
            have q1 : ∀ m : Q.GW (w5).drew w5.heap.size none, (convert 25 9 (.slice Ap D.length cp)).run Try.prog m.w = .ok (.string (strOfNums D)) m.w := fun m => Kd.C_string Try.underlying25 Try.underlying5 Try.underlying9 (Kd.C_below HPd.out.C m.below)
            have q2 : ∀ m : Q.GW (w5).drew w5.heap.size none, (convert 25 9 (.slice A5 D.length c5)).run Try.prog m.w = .ok (.string (strOfNums D)) m.w := fun m => Kd.C_string Try.underlying25 Try.underlying5 Try.underlying9 (Kd.C_below HC5.out m.below)
            have q3 : ∀ m : Q.GW (w5).drew w5.heap.size none, m.w.cell? ⟨bx, 0, none⟩ = some (.slice A4 T2.length c4) := fun m => pw_cell_below (stay1 (stay0 w5) m.below) x0
            have q4 : ∀ m : Q.GW (w5).drew w5.heap.size none, m.w.cell? ⟨bx, 1, none⟩ = some (.int .u64 n) := fun m => pw_cell_below (stay1 (stay0 w5) m.below) x1
            repeat (go_big_quiet_step (fail))
            refine wpQuiet_nil ?_
            clear z1 hcut x0 x1
            clear q1 q2 q3 q4
            go_wp2_with (go_at_call 27; refine (count_as bs n D T2.length _ HS.out (by have := HNN.out; have := HDL.out; omega) (by have := HNN.out; have := HI.out; omega)).mono ?_; rintro e w6 ⟨rfl, hb6⟩; (have Hb6 := Lib.hid hb6); clear hb6)
            refine Q.ev_done Hb6.out (Nat.le_refl _) ?_
            replace HS := Lib.hid (HS.out.below Hb6.out)
            replace HX := Lib.hid (HX.out.below Hb6.out)
            replace HK := Lib.hid (HK.out.below Hb6.out)
            replace HB := Lib.hid (stay1 HB.out Hb6.out)
            replace HPd := Lib.hid (HPd.out.below Hb6.out)
            replace HC5 := Lib.hid (Kd.C_below HC5.out Hb6.out)
            clear Hb6
            repeat (go_big_quiet_step (fail))
            refine wpQuiet_nil ?_
            go_wp2_with (go_at_call 33; refine (scount_b bk kn _ HK.out).mono ?_; rintro e w7 ⟨rfl, hb7⟩; (have Hb7 := Lib.hid hb7); clear hb7)
            refine Q.ev_done Hb7.out (Nat.le_refl _) ?_
            replace HS := Lib.hid (HS.out.below Hb7.out)
            replace HX := Lib.hid (HX.out.below Hb7.out)
            replace HK := Lib.hid (HK.out.below Hb7.out)
            replace HB := Lib.hid (stay1 HB.out Hb7.out)
            replace HPd := Lib.hid (HPd.out.below Hb7.out)
            replace HC5 := Lib.hid (Kd.C_below HC5.out Hb7.out)
            clear Hb7
            repeat (go_big_quiet_step (fail))
            refine wpQuiet_nil ?_
            refine NoPanic.normal ?_
            clear s1
            go_wp2
            go_roundg g
            case measure => omega
            case rel => exact ⟨i + 1, n, kn, T2, by go_num, rfl, Lib.hid (by have := HI.out; omega), HNN, Lib.hid (by rw [HD.out]; exact HS.out), HX, HK, HB⟩
        · have hn := HN.out
          by_cases ha : N < n
          · have HFF := Lib.hid ha
            clear hn ha
            have b0 := HQ.out.cells.1
            have b1 := HQ.out.cells.2.1
            have b2 := HQ.out.cells.2.2
            rw [← HBO.out] at b0 b1 b2
            rw [hy] at b0 b1 b2
            go_wp2_with fail
            rw [← hy]
            rw [HBO.out]
            clear hy b0 b1 b2 k0 k1 k2
            refine Q.wp_region_segs none [([0, 1, 2, 4, 5, 6], some 3), ([], some 7), ([8], none)] (by kernel_rfl) (by kernel_rfl) (by kernel_rfl) (by kernel_rfl) ?_
            dsimp only [Q.wpSegs, Q.picks, Q.pick]
            replace HS := Lib.hid (HS.out.below (stay0 _))
            replace HX := Lib.hid (HX.out.below (stay0 _))
            replace HK := Lib.hid (HK.out.below (stay0 _))
            replace HB := Lib.hid (HB.out.drew)
            replace HQ := Lib.hid (HQ.out.below (stay0 _))
            have q0 : ∀ m : Q.GW (y).drew y.heap.size none, m.w.cell? ⟨bo2, 0, none⟩ = some (.int .i64 1) := fun m => pw_cell_below m.below HQ.out.cells.1
            have q1 : ∀ m : Q.GW (y).drew y.heap.size none, m.w.cell? ⟨bo2, 1, none⟩ = some (.int .u64 N) := fun m => pw_cell_below m.below HQ.out.cells.2.1
            have q2 : ∀ m : Q.GW (y).drew y.heap.size none, m.w.cell? ⟨bo2, 2, none⟩ = some (.slice Aj by_.length cj) := fun m => pw_cell_below m.below HQ.out.cells.2.2
            repeat (go_big_quiet_step (fail))
            refine wpQuiet_nil ?_
            clear q0 q1 q2
            go_wp2_with (go_at_call 25; refine (ack_old bs n N (T.drop n) _ HS.out (by have := HFF.out; omega)).mono ?_; rintro e wx ⟨rfl, rfl⟩)
            refine Q.ev_done (Below.refl _ _) (Nat.le_refl _) ?_
            refine wpQuiet_nil ?_
            go_wp2_with (go_at_call 30; refine (rack_no bx n N T 23 _ HX.out (by have := HN.out; have := HI.out; omega) (.inl ⟨by have := HFF.out; omega, rfl⟩)).mono ?_; rintro e wx ⟨rfl, rfl⟩)
            refine Q.ev_done (Below.refl _ _) (Nat.le_refl _) ?_
            repeat (go_big_quiet_step (fail))
            refine wpQuiet_nil ?_
            refine NoPanic.normal ?_
            clear HQ HBO
            have HNN := Lib.hid (show n ≤ (T).length ∧ (T).length ≤ n + 512 ∧ (T).length ≤ 600 * (i + 1) ∧ kn ≤ 600 * (i + 1) from by have := HN.out; omega)
            obtain ⟨T2, hT2⟩ : ∃ T2, T = T2 := ⟨_, rfl⟩
            rw [hT2] at HS HX HNN
            clear hT2
            obtain ⟨D, hD⟩ : ∃ D, T2.drop n = D := ⟨_, rfl⟩
            have HDL := Lib.hid (show D.length = T2.length - n from by rw [← hD]; exact List.length_drop)
            rw [hD] at HS
            have HD := Lib.hid hD
            clear hD
            go_wp2_with fail
            refine (pending_any bs n D _ HS.out (by have := HDL.out; have := HNN.out; omega)).mono ?_
            rintro e w4 ⟨v4p, rfl, ho4p, hb4⟩
            replace HS := Lib.hid (HS.out.below hb4)
            replace HX := Lib.hid (HX.out.below hb4)
            replace HK := Lib.hid (HK.out.below hb4)
            replace HB := Lib.hid (stay1 HB.out hb4)
            obtain ⟨Ap, cp, rfl, hkp, hCp⟩ := Kd.R_reads ho4p
            have HPd := Lib.hid (CT.mk hCp (Ty_R ho4p))
            have KHPd := Lib.hid hkp
            clear ho4p hCp hkp
            clear hb4
            obtain ⟨A4, c4, hbx, hk4, hCT4⟩ := HX.out
            obtain ⟨i0, hi0, hz0⟩ := info_of info_u8
            obtain ⟨A5, c5, hcut, hc5, hread⟩ := cutf (P := Try.prog) .u8 .u64 25 5 Try.underlying25 hi0 hz0 A4 T2.length c4 (n : Int) (T2.length - n) (by omega) (by have := HNN.out; omega) hk4
            have hC5 := (hread _ T2 rfl hCT4.C).1
            rw [Int.toNat_natCast, HD.out] at hC5
            have HC5 := Lib.hid (show (Kd.int .u8).C w4 A5 D.length D from by rw [HDL.out]; exact hC5)
            rw [← HDL.out] at hcut
            have x0 := (cells_rf hbx).1
            have x1 := (cells_rf hbx).2.1
            clear hk4 hCT4 hread hC5 hc5 hi0 hz0 hbx
            have s1 : IntKind.u64.wrap (T2.length : Int) = T2.length := wraps_u64 _ (by omega) (by have := HNN.out; have := HI.out; omega)
            have z1 : (0 : Int) ≤ (n : Int) := by omega
            go_wp2_with fail
            refine Q.wp_region_segs none [([0, 1, 2, 3, 4, 5, 6, 7, 8, 9, 10, 11, 12, 13, 14, 15, 16, 17, 18, 19, 20, 21, 22, 24, 25, 26, 27, 28, 29], some 23), ([30, 31, 32, 33, 35], some 34), ([36, 37], none)] (by kernel_rfl) (by kernel_rfl) (by kernel_rfl) (by kernel_rfl) ?_
            dsimp only [Q.wpSegs, Q.picks, Q.pick]
            replace HS := Lib.hid (HS.out.below (stay0 _))
            replace HX := Lib.hid (HX.out.below (stay0 _))
            replace HK := Lib.hid (HK.out.below (stay0 _))
            replace HB := Lib.hid (HB.out.drew)
            replace HPd := Lib.hid (HPd.out.below (stay0 _))
            replace HC5 := Lib.hid (Kd.C_drew HC5.out)
            have q1 : ∀ m : Q.GW (w4).drew w4.heap.size none, (convert 25 9 (.slice Ap D.length cp)).run Try.prog m.w = .ok (.string (strOfNums D)) m.w := fun m => Kd.C_string Try.underlying25 Try.underlying5 Try.underlying9 (Kd.C_below HPd.out.C m.below)
            have q2 : ∀ m : Q.GW (w4).drew w4.heap.size none, (convert 25 9 (.slice A5 D.length c5)).run Try.prog m.w = .ok (.string (strOfNums D)) m.w := fun m => Kd.C_string Try.underlying25 Try.underlying5 Try.underlying9 (Kd.C_below HC5.out m.below)
            have q3 : ∀ m : Q.GW (w4).drew w4.heap.size none, m.w.cell? ⟨bx, 0, none⟩ = some (.slice A4 T2.length c4) := fun m => pw_cell_below (stay1 (stay0 w4) m.below) x0
            have q4 : ∀ m : Q.GW (w4).drew w4.heap.size none, m.w.cell? ⟨bx, 1, none⟩ = some (.int .u64 n) := fun m => pw_cell_below (stay1 (stay0 w4) m.below) x1
            repeat (go_big_quiet_step (fail))
            refine wpQuiet_nil ?_
            clear z1 hcut x0 x1
            clear q1 q2 q3 q4
            go_wp2_with (go_at_call 27; refine (count_as bs n D T2.length _ HS.out (by have := HNN.out; have := HDL.out; omega) (by have := HNN.out; have := HI.out; omega)).mono ?_; rintro e w5 ⟨rfl, hb5⟩; (have Hb5 := Lib.hid hb5); clear hb5)
            refine Q.ev_done Hb5.out (Nat.le_refl _) ?_
            replace HS := Lib.hid (HS.out.below Hb5.out)
            replace HX := Lib.hid (HX.out.below Hb5.out)
            replace HK := Lib.hid (HK.out.below Hb5.out)
            replace HB := Lib.hid (stay1 HB.out Hb5.out)
            replace HPd := Lib.hid (HPd.out.below Hb5.out)
            replace HC5 := Lib.hid (Kd.C_below HC5.out Hb5.out)
            clear Hb5
            repeat (go_big_quiet_step (fail))
            refine wpQuiet_nil ?_
            go_wp2_with (go_at_call 33; refine (scount_b bk kn _ HK.out).mono ?_; rintro e w6 ⟨rfl, hb6⟩; (have Hb6 := Lib.hid hb6); clear hb6)
            refine Q.ev_done Hb6.out (Nat.le_refl _) ?_
            replace HS := Lib.hid (HS.out.below Hb6.out)
            replace HX := Lib.hid (HX.out.below Hb6.out)
            replace HK := Lib.hid (HK.out.below Hb6.out)
            replace HB := Lib.hid (stay1 HB.out Hb6.out)
            replace HPd := Lib.hid (HPd.out.below Hb6.out)
            replace HC5 := Lib.hid (Kd.C_below HC5.out Hb6.out)
            clear Hb6
            repeat (go_big_quiet_step (fail))
            refine wpQuiet_nil ?_
            refine NoPanic.normal ?_
            clear s1
            go_wp2
            go_roundg g
            case measure => omega
            case rel => exact ⟨i + 1, n, kn, T2, by go_num, rfl, Lib.hid (by have := HI.out; omega), HNN, Lib.hid (by rw [HD.out]; exact HS.out), HX, HK, HB⟩
          by_cases hb : T.length < N
          · have HFF := Lib.hid (show T.length < N ∧ n ≤ N from by omega)
            clear hn ha hb
            have b0 := HQ.out.cells.1
            have b1 := HQ.out.cells.2.1
            have b2 := HQ.out.cells.2.2
            rw [← HBO.out] at b0 b1 b2
            rw [hy] at b0 b1 b2
            go_wp2_with fail
            rw [← hy]
            rw [HBO.out]
            clear hy b0 b1 b2 k0 k1 k2
            refine Q.wp_region_segs none [([0, 1, 2, 4, 5, 6], some 3), ([], some 7), ([8], none)] (by kernel_rfl) (by kernel_rfl) (by kernel_rfl) (by kernel_rfl) ?_
            dsimp only [Q.wpSegs, Q.picks, Q.pick]
            replace HS := Lib.hid (HS.out.below (stay0 _))
            replace HX := Lib.hid (HX.out.below (stay0 _))
            replace HK := Lib.hid (HK.out.below (stay0 _))
            replace HB := Lib.hid (HB.out.drew)
            replace HQ := Lib.hid (HQ.out.below (stay0 _))
            have q0 : ∀ m : Q.GW (y).drew y.heap.size none, m.w.cell? ⟨bo2, 0, none⟩ = some (.int .i64 1) := fun m => pw_cell_below m.below HQ.out.cells.1
            have q1 : ∀ m : Q.GW (y).drew y.heap.size none, m.w.cell? ⟨bo2, 1, none⟩ = some (.int .u64 N) := fun m => pw_cell_below m.below HQ.out.cells.2.1
            have q2 : ∀ m : Q.GW (y).drew y.heap.size none, m.w.cell? ⟨bo2, 2, none⟩ = some (.slice Aj by_.length cj) := fun m => pw_cell_below m.below HQ.out.cells.2.2
            repeat (go_big_quiet_step (fail))
            refine wpQuiet_nil ?_
            clear q0 q1 q2
            go_wp2_with (go_at_call 25; refine (ack_arg bs n N (T.drop n) _ HS.out (by omega) (by have := HN.out; have := HI.out; rw [List.length_drop]; omega) (by have := HFF.out; have := HN.out; rw [List.length_drop]; omega)).mono ?_; rintro e w4 ⟨rfl, hb4⟩; (have Hb4 := Lib.hid hb4); clear hb4)
            refine Q.ev_done Hb4.out (Nat.le_refl _) ?_
            replace HS := Lib.hid (HS.out.below Hb4.out)
            replace HX := Lib.hid (HX.out.below Hb4.out)
            replace HK := Lib.hid (HK.out.below Hb4.out)
            replace HB := Lib.hid (stay1 HB.out Hb4.out)
            replace HQ := Lib.hid (HQ.out.below Hb4.out)
            clear Hb4
            refine wpQuiet_nil ?_
            go_wp2_with (go_at_call 30; refine (rack_no bx n N T 1 _ HX.out (by have := HN.out; have := HI.out; omega) (.inr ⟨by have := HFF.out; omega, by have := HFF.out; omega, rfl⟩)).mono ?_; rintro e wx ⟨rfl, rfl⟩)
            refine Q.ev_done (Below.refl _ _) (Nat.le_refl _) ?_
            repeat (go_big_quiet_step (fail))
            refine wpQuiet_nil ?_
            refine NoPanic.normal ?_
            clear HQ HBO
            have HNN := Lib.hid (show n ≤ (T).length ∧ (T).length ≤ n + 512 ∧ (T).length ≤ 600 * (i + 1) ∧ kn ≤ 600 * (i + 1) from by have := HN.out; omega)
            obtain ⟨T2, hT2⟩ : ∃ T2, T = T2 := ⟨_, rfl⟩
            rw [hT2] at HS HX HNN
            clear hT2
            obtain ⟨D, hD⟩ : ∃ D, T2.drop n = D := ⟨_, rfl⟩
            have HDL := Lib.hid (show D.length = T2.length - n from by rw [← hD]; exact List.length_drop)
            rw [hD] at HS
            have HD := Lib.hid hD
            clear hD
            go_wp2_with fail
            refine (pending_any bs n D _ HS.out (by have := HDL.out; have := HNN.out; omega)).mono ?_
            rintro e w5 ⟨v5p, rfl, ho5p, hb5⟩
            replace HS := Lib.hid (HS.out.below hb5)
            replace HX := Lib.hid (HX.out.below hb5)
            replace HK := Lib.hid (HK.out.below hb5)
            replace HB := Lib.hid (stay1 HB.out hb5)
            obtain ⟨Ap, cp, rfl, hkp, hCp⟩ := Kd.R_reads ho5p
            have HPd := Lib.hid (CT.mk hCp (Ty_R ho5p))
            have KHPd := Lib.hid hkp
            clear ho5p hCp hkp
            clear hb5
            obtain ⟨A4, c4, hbx, hk4, hCT4⟩ := HX.out
            obtain ⟨i0, hi0, hz0⟩ := info_of info_u8
            obtain ⟨A5, c5, hcut, hc5, hread⟩ := cutf (P := Try.prog) .u8 .u64 25 5 Try.underlying25 hi0 hz0 A4 T2.length c4 (n : Int) (T2.length - n) (by omega) (by have := HNN.out; omega) hk4
            have hC5 := (hread _ T2 rfl hCT4.C).1
            rw [Int.toNat_natCast, HD.out] at hC5
            have HC5 := Lib.hid (show (Kd.int .u8).C w5 A5 D.length D from by rw [HDL.out]; exact hC5)
            rw [← HDL.out] at hcut
            have x0 := (cells_rf hbx).1
            have x1 := (cells_rf hbx).2.1
            clear hk4 hCT4 hread hC5 hc5 hi0 hz0 hbx
            have s1 : IntKind.u64.wrap (T2.length : Int) = T2.length := wraps_u64 _ (by omega) (by have := HNN.out; have := HI.out; omega)
            have z1 : (0 : Int) ≤ (n : Int) := by omega
            go_wp2_with fail
            refine Q.wp_region_segs none [([0, 1, 2, 3, 4, 5, 6, 7, 8, 9, 10, 11, 12, 13, 14, 15, 16, 17, 18, 19, 20, 21, 22, 24, 25, 26, 27, 28, 29], some 23), ([30, 31, 32, 33, 35], some 34), ([36, 37], none)] (by kernel_rfl) (by kernel_rfl) (by kernel_rfl) (by kernel_rfl) ?_
            dsimp only [Q.wpSegs, Q.picks, Q.pick]
            replace HS := Lib.hid (HS.out.below (stay0 _))
            replace HX := Lib.hid (HX.out.below (stay0 _))
            replace HK := Lib.hid (HK.out.below (stay0 _))
            replace HB := Lib.hid (HB.out.drew)
            replace HPd := Lib.hid (HPd.out.below (stay0 _))
            replace HC5 := Lib.hid (Kd.C_drew HC5.out)
            have q1 : ∀ m : Q.GW (w5).drew w5.heap.size none, (convert 25 9 (.slice Ap D.length cp)).run Try.prog m.w = .ok (.string (strOfNums D)) m.w := fun m => Kd.C_string Try.underlying25 Try.underlying5 Try.underlying9 (Kd.C_below HPd.out.C m.below)
            have q2 : ∀ m : Q.GW (w5).drew w5.heap.size none, (convert 25 9 (.slice A5 D.length c5)).run Try.prog m.w = .ok (.string (strOfNums D)) m.w := fun m => Kd.C_string Try.underlying25 Try.underlying5 Try.underlying9 (Kd.C_below HC5.out m.below)
            have q3 : ∀ m : Q.GW (w5).drew w5.heap.size none, m.w.cell? ⟨bx, 0, none⟩ = some (.slice A4 T2.length c4) := fun m => pw_cell_below (stay1 (stay0 w5) m.below) x0
            have q4 : ∀ m : Q.GW (w5).drew w5.heap.size none, m.w.cell? ⟨bx, 1, none⟩ = some (.int .u64 n) := fun m => pw_cell_below (stay1 (stay0 w5) m.below) x1
            repeat (go_big_quiet_step (fail))
            refine wpQuiet_nil ?_
            clear z1 hcut x0 x1
            clear q1 q2 q3 q4
            go_wp2_with (go_at_call 27; refine (count_as bs n D T2.length _ HS.out (by have := HNN.out; have := HDL.out; omega) (by have := HNN.out; have := HI.out; omega)).mono ?_; rintro e w6 ⟨rfl, hb6⟩; (have Hb6 := Lib.hid hb6); clear hb6)
            refine Q.ev_done Hb6.out (Nat.le_refl _) ?_
            replace HS := Lib.hid (HS.out.below Hb6.out)
            replace HX := Lib.hid (HX.out.below Hb6.out)
            replace HK := Lib.hid (HK.out.below Hb6.out)
            replace HB := Lib.hid (stay1 HB.out Hb6.out)
            replace HPd := Lib.hid (HPd.out.below Hb6.out)
            replace HC5 := Lib.hid (Kd.C_below HC5.out Hb6.out)
            clear Hb6
            repeat (go_big_quiet_step (fail))
            refine wpQuiet_nil ?_
            go_wp2_with (go_at_call 33; refine (scount_b bk kn _ HK.out).mono ?_; rintro e w7 ⟨rfl, hb7⟩; (have Hb7 := Lib.hid hb7); clear hb7)
            refine Q.ev_done Hb7.out (Nat.le_refl _) ?_
            replace HS := Lib.hid (HS.out.below Hb7.out)
            replace HX := Lib.hid (HX.out.below Hb7.out)
            replace HK := Lib.hid (HK.out.below Hb7.out)
            replace HB := Lib.hid (stay1 HB.out Hb7.out)
            replace HPd := Lib.hid (HPd.out.below Hb7.out)
            replace HC5 := Lib.hid (Kd.C_below HC5.out Hb7.out)
            clear Hb7
            repeat (go_big_quiet_step (fail))
            refine wpQuiet_nil ?_
            refine NoPanic.normal ?_
            clear s1
            go_wp2
            go_roundg g
            case measure => omega
            case rel => exact ⟨i + 1, n, kn, T2, by go_num, rfl, Lib.hid (by have := HI.out; omega), HNN, Lib.hid (by rw [HD.out]; exact HS.out), HX, HK, HB⟩
          have HDD := Lib.hid (show (T.drop n).drop ((N : Int) - (n : Int)).toNat = T.drop N from by rw [List.drop_drop]; congr 1; omega)
          have HFF := Lib.hid (show n ≤ N ∧ N ≤ T.length from by omega)
          clear hn ha hb
          have b0 := HQ.out.cells.1
          have b1 := HQ.out.cells.2.1
          have b2 := HQ.out.cells.2.2
          rw [← HBO.out] at b0 b1 b2
          rw [hy] at b0 b1 b2
          go_wp2_with fail
          rw [← hy]
          rw [HBO.out]
          clear hy b0 b1 b2 k0 k1 k2
          have HNE := Lib.hid (HQ.out.ne_st HS.out)
          have HNX := Lib.hid (HQ.out.ne_rf HX.out)
          refine Qs.wp_region_segs (fun k => k = bs ∨ k = bx) [([0, 1, 2, 4, 5, 6], some 3), ([], some 7), ([8], none)] (by kernel_rfl) (by kernel_rfl) (by kernel_rfl) (by kernel_rfl) ?_
          dsimp only [Qs.wpSegs, Q.picks, Q.pick]
          replace HS := Lib.hid (HS.out.below (stay0 _))
          replace HX := Lib.hid (HX.out.below (stay0 _))
          replace HK := Lib.hid (HK.out.below (stay0 _))
          replace HB := Lib.hid (HB.out.drew)
          replace HQ := Lib.hid (HQ.out.below (stay0 _))
          have HLT := Lib.hid HQ.out.lt
          have g0 := fun (m : Qs.GW y.drew y.heap.size (fun k => k = bs ∨ k = bx)) => (HQ.out.gw m HLT.out (fun h => h.elim HNE.out HNX.out)).cells.1
          have g1 := fun (m : Qs.GW y.drew y.heap.size (fun k => k = bs ∨ k = bx)) => (HQ.out.gw m HLT.out (fun h => h.elim HNE.out HNX.out)).cells.2.1
          have g2 := fun (m : Qs.GW y.drew y.heap.size (fun k => k = bs ∨ k = bx)) => (HQ.out.gw m HLT.out (fun h => h.elim HNE.out HNX.out)).cells.2.2
          repeat (go_big_quiet_step (fail))
          refine wpQuiet_nil ?_
          clear g0 g1 g2
          go_wp2_with (go_at_call 25; refine (ack_ok bs n N (T.drop n) _ HS.out (by omega) (by have := HN.out; have := HI.out; rw [List.length_drop]; omega) (by have := HFF.out; omega) (by have := HFF.out; have := HN.out; rw [List.length_drop]; omega) (by have := HN.out; rw [List.length_drop]; omega)).mono ?_; rintro e w4 ⟨rfl, hs4, hg4⟩; (have HS4 := Lib.hid hs4); (have HG4 := Lib.hid hg4); clear hs4 hg4)
          refine Qs.ev_app (Qs.Gr.of_grown HG4.out (fun k hk => .inl (by injection hk with hk; exact hk.symm)) (Nat.le_refl _)) (Nat.le_refl _) (Qs.NewRow.self _ _) ?_
          replace HX := Lib.hid (HX.out.st HS.out HG4.out)
          replace HK := Lib.hid (HK.out.stream HS.out HG4.out)
          replace HB := Lib.hid (bgrow HB.out HG4.out HLs.out)
          replace HQ := Lib.hid (HQ.out.st HS.out HG4.out)
          replace HS := HS4
          clear HS4
          refine wpQuiet_nil ?_
          go_wp2_with (go_at_call 30; refine (rack_ok bx n N T _ HX.out (by have := HN.out; have := HI.out; omega) (by have := HFF.out; omega) (by have := HFF.out; omega)).mono ?_; rintro e w5 ⟨rfl, hs5, hg5⟩; (have HX5 := Lib.hid hs5); (have HG5 := Lib.hid hg5); clear hs5 hg5)
          refine Qs.ev_app (Qs.Gr.of_grown HG5.out (fun k hk => .inr (by injection hk with hk; exact hk.symm)) HG4.out.size) (Nat.le_refl _) (Qs.NewRow.self _ _) ?_
          replace HS := Lib.hid (HS.out.rf HX.out HG5.out)
          replace HK := Lib.hid (HK.out.rf HX.out HG5.out)
          replace HB := Lib.hid (bgrow HB.out HG5.out HLx.out)
          replace HQ := Lib.hid (HQ.out.rf HX.out HG5.out)
          replace HX := HX5
          clear HX5 HG4 HG5 HNE HNX HLT
          repeat (go_big_quiet_step (fail))
          refine wpQuiet_nil ?_
          refine NoPanic.normal ?_
          rw [HDD.out] at HS
          clear HQ HBO
          have HNN := Lib.hid (show N ≤ (T).length ∧ (T).length ≤ N + 512 ∧ (T).length ≤ 600 * (i + 1) ∧ kn ≤ 600 * (i + 1) from by have := HN.out; have := HFF.out; omega)
          obtain ⟨T2, hT2⟩ : ∃ T2, T = T2 := ⟨_, rfl⟩
          rw [hT2] at HS HX HNN
          clear hT2
          obtain ⟨D, hD⟩ : ∃ D, T2.drop N = D := ⟨_, rfl⟩
          have HDL := Lib.hid (show D.length = T2.length - N from by rw [← hD]; exact List.length_drop)
          rw [hD] at HS
          have HD := Lib.hid hD
          clear hD
          go_wp2_with fail
          refine (pending_any bs N D _ HS.out (by have := HDL.out; have := HNN.out; omega)).mono ?_
          rintro e w6 ⟨v6p, rfl, ho6p, hb6⟩
          replace HS := Lib.hid (HS.out.below hb6)
          replace HX := Lib.hid (HX.out.below hb6)
          replace HK := Lib.hid (HK.out.below hb6)
          replace HB := Lib.hid (stay1 HB.out hb6)
          obtain ⟨Ap, cp, rfl, hkp, hCp⟩ := Kd.R_reads ho6p
          have HPd := Lib.hid (CT.mk hCp (Ty_R ho6p))
          have KHPd := Lib.hid hkp
          clear ho6p hCp hkp
          clear hb6
          obtain ⟨A4, c4, hbx, hk4, hCT4⟩ := HX.out
          obtain ⟨i0, hi0, hz0⟩ := info_of info_u8
          obtain ⟨A5, c5, hcut, hc5, hread⟩ := cutf (P := Try.prog) .u8 .u64 25 5 Try.underlying25 hi0 hz0 A4 T2.length c4 (N : Int) (T2.length - N) (by omega) (by have := HNN.out; omega) hk4
          have hC5 := (hread _ T2 rfl hCT4.C).1
          rw [Int.toNat_natCast, HD.out] at hC5
          have HC5 := Lib.hid (show (Kd.int .u8).C w6 A5 D.length D from by rw [HDL.out]; exact hC5)
          rw [← HDL.out] at hcut
          have x0 := (cells_rf hbx).1
          have x1 := (cells_rf hbx).2.1
          clear hk4 hCT4 hread hC5 hc5 hi0 hz0 hbx
          have s1 : IntKind.u64.wrap (T2.length : Int) = T2.length := wraps_u64 _ (by omega) (by have := HNN.out; have := HI.out; omega)
          have z1 : (0 : Int) ≤ (N : Int) := by omega
          go_wp2_with fail
          refine Q.wp_region_segs none [([0, 1, 2, 3, 4, 5, 6, 7, 8, 9, 10, 11, 12, 13, 14, 15, 16, 17, 18, 19, 20, 21, 22, 24, 25, 26, 27, 28, 29], some 23), ([30, 31, 32, 33, 35], some 34), ([36, 37], none)] (by kernel_rfl) (by kernel_rfl) (by kernel_rfl) (by kernel_rfl) ?_
          dsimp only [Q.wpSegs, Q.picks, Q.pick]
          replace HS := Lib.hid (HS.out.below (stay0 _))
          replace HX := Lib.hid (HX.out.below (stay0 _))
          replace HK := Lib.hid (HK.out.below (stay0 _))
          replace HB := Lib.hid (HB.out.drew)
          replace HPd := Lib.hid (HPd.out.below (stay0 _))
          replace HC5 := Lib.hid (Kd.C_drew HC5.out)
          have q1 : ∀ m : Q.GW (w6).drew w6.heap.size none, (convert 25 9 (.slice Ap D.length cp)).run Try.prog m.w = .ok (.string (strOfNums D)) m.w := fun m => Kd.C_string Try.underlying25 Try.underlying5 Try.underlying9 (Kd.C_below HPd.out.C m.below)
          have q2 : ∀ m : Q.GW (w6).drew w6.heap.size none, (convert 25 9 (.slice A5 D.length c5)).run Try.prog m.w = .ok (.string (strOfNums D)) m.w := fun m => Kd.C_string Try.underlying25 Try.underlying5 Try.underlying9 (Kd.C_below HC5.out m.below)
          have q3 : ∀ m : Q.GW (w6).drew w6.heap.size none, m.w.cell? ⟨bx, 0, none⟩ = some (.slice A4 T2.length c4) := fun m => pw_cell_below (stay1 (stay0 w6) m.below) x0
          have q4 : ∀ m : Q.GW (w6).drew w6.heap.size none, m.w.cell? ⟨bx, 1, none⟩ = some (.int .u64 N) := fun m => pw_cell_below (stay1 (stay0 w6) m.below) x1
          repeat (go_big_quiet_step (fail))
          refine wpQuiet_nil ?_
          clear z1 hcut x0 x1
          clear q1 q2 q3 q4
          go_wp2_with (go_at_call 27; refine (count_as bs N D T2.length _ HS.out (by have := HNN.out; have := HDL.out; omega) (by have := HNN.out; have := HI.out; omega)).mono ?_; rintro e w7 ⟨rfl, hb7⟩; (have Hb7 := Lib.hid hb7); clear hb7)
          refine Q.ev_done Hb7.out (Nat.le_refl _) ?_
          replace HS := Lib.hid (HS.out.below Hb7.out)
          replace HX := Lib.hid (HX.out.below Hb7.out)
          replace HK := Lib.hid (HK.out.below Hb7.out)
          replace HB := Lib.hid (stay1 HB.out Hb7.out)
          replace HPd := Lib.hid (HPd.out.below Hb7.out)
          replace HC5 := Lib.hid (Kd.C_below HC5.out Hb7.out)
          clear Hb7
          repeat (go_big_quiet_step (fail))
          refine wpQuiet_nil ?_
          go_wp2_with (go_at_call 33; refine (scount_b bk kn _ HK.out).mono ?_; rintro e w8 ⟨rfl, hb8⟩; (have Hb8 := Lib.hid hb8); clear hb8)
          refine Q.ev_done Hb8.out (Nat.le_refl _) ?_
          replace HS := Lib.hid (HS.out.below Hb8.out)
          replace HX := Lib.hid (HX.out.below Hb8.out)
          replace HK := Lib.hid (HK.out.below Hb8.out)
          replace HB := Lib.hid (stay1 HB.out Hb8.out)
          replace HPd := Lib.hid (HPd.out.below Hb8.out)
          replace HC5 := Lib.hid (Kd.C_below HC5.out Hb8.out)
          clear Hb8
          repeat (go_big_quiet_step (fail))
          refine wpQuiet_nil ?_
          refine NoPanic.normal ?_
          clear s1
          go_wp2
          go_roundg g
          case measure => omega
          case rel => exact ⟨i + 1, N, kn, T2, by go_num, rfl, Lib.hid (by have := HI.out; omega), HNN, Lib.hid (by rw [HD.out]; exact HS.out), HX, HK, HB⟩
        · obtain ⟨L, E, K, hR⟩ : ∃ L E K, stR kn N by_ = (L, E, K) := ⟨_, _, _, rfl⟩
          have hlen := stR_len hR
          obtain ⟨hK, hL⟩ := hlen
          subst hK
          have HR := Lib.hid hR
          have HLL := Lib.hid hL
          clear hR hL
          have b0 := HQ.out.cells.1
          have b1 := HQ.out.cells.2.1
          have b2 := HQ.out.cells.2.2
          rw [← HBO.out] at b0 b1 b2
          rw [hy] at b0 b1 b2
          go_wp2_with fail
          rw [← hy]
          rw [HBO.out]
          clear hy b0 b1 b2 k0 k1 k2
          refine (stake_ex bk kn N by_ L E _ Aj cj _ HR.out HK.out (Kd.C_below HCj.out HB.out) HCK.out (by omega) (by have := HN.out; have := HI.out; omega) (by omega)).mono ?_
          rintro e w4 ⟨v4a, rfl, ho4a, hs4, hg4⟩
          replace HS := Lib.hid (HS.out.sink HK.out hg4)
          replace HX := Lib.hid (HX.out.sk HK.out hg4)
          replace HB := Lib.hid (bgrow HB.out hg4 HLk.out)
          replace HQ := Lib.hid (HQ.out.sk HK.out hg4)
          replace HK := Lib.hid hs4
          obtain ⟨Aa, ca, rfl, hka, hCa⟩ := Kd.R_reads ho4a
          have HTa := Lib.hid (CT.mk hCa (Ty_R ho4a))
          have KHTa := Lib.hid hka
          clear ho4a hCa hka
          clear hs4 hg4
          have b1 := HQ.out.cells.2.1
          have b2 := HQ.out.cells.2.2
          go_wp2_with fail
          refine (rtake_as kn N by_ L E _ Aj cj _ HR.out (Kd.C_below HCj.out HB.out) (by omega) (by have := HN.out; have := HI.out; omega) (by omega)).mono ?_
          rintro e w5 ⟨v5b, rfl, ho5b, hb5⟩
          replace HS := Lib.hid (HS.out.below hb5)
          replace HX := Lib.hid (HX.out.below hb5)
          replace HK := Lib.hid (HK.out.below hb5)
          replace HB := Lib.hid (stay1 HB.out hb5)
          replace HQ := Lib.hid (HQ.out.below hb5)
          replace HTa := Lib.hid (HTa.out.below hb5)
          obtain ⟨Ab, cb, rfl, hkb, hCb⟩ := Kd.R_reads ho5b
          have HTb := Lib.hid (CT.mk hCb (Ty_R ho5b))
          have KHTb := Lib.hid hkb
          clear ho5b hCb hkb
          clear hb5
          clear b1 b2
          have qa : (convert 25 9 (.slice Aa L.length ca)).run Try.prog w5 = .ok (.string (strOfNums L)) w5 := Kd.C_string Try.underlying25 Try.underlying5 Try.underlying9 HTa.out.C
          have qb : (convert 25 9 (.slice Ab L.length cb)).run Try.prog w5 = .ok (.string (strOfNums L)) w5 := Kd.C_string Try.underlying25 Try.underlying5 Try.underlying9 HTb.out.C
          have s2 : IntKind.u64.wrap (L.length : Int) = L.length := wraps_u64 _ (by omega) (by have := HLL.out; omega)
          have s3 : IntKind.u64.wrap ((kn : Int) + (L.length : Int)) = ((kn + L.length : Nat) : Int) := by rw [wraps_u64 _ (by omega) (by have := HN.out; have := HI.out; have := HLL.out; omega)]; omega
          replace HK := Lib.hid (show Sk bk ((kn + L.length : Nat) : Int) w5 from HK.out)
          clear HQ HBO
          have HNN := Lib.hid (show n ≤ (T).length ∧ (T).length ≤ n + 512 ∧ (T).length ≤ 600 * (i + 1) ∧ (kn + L.length) ≤ 600 * (i + 1) from by have := HN.out; have := HLL.out; omega)
          obtain ⟨T2, hT2⟩ : ∃ T2, T = T2 := ⟨_, rfl⟩
          rw [hT2] at HS HX HNN
          clear hT2
          obtain ⟨D, hD⟩ : ∃ D, T2.drop n = D := ⟨_, rfl⟩
          have HDL := Lib.hid (show D.length = T2.length - n from by rw [← hD]; exact List.length_drop)
          rw [hD] at HS
          have HD := Lib.hid hD
          clear hD
          go_wp2_with fail
          refine (pending_any bs n D _ HS.out (by have := HDL.out; have := HNN.out; omega)).mono ?_
          rintro e w6 ⟨v6p, rfl, ho6p, hb6⟩
          replace HS := Lib.hid (HS.out.below hb6)
          replace HX := Lib.hid (HX.out.below hb6)
          replace HK := Lib.hid (HK.out.below hb6)
          replace HB := Lib.hid (stay1 HB.out hb6)
          replace HTa := Lib.hid (HTa.out.below hb6)
          replace HTb := Lib.hid (HTb.out.below hb6)
          obtain ⟨Ap, cp, rfl, hkp, hCp⟩ := Kd.R_reads ho6p
          have HPd := Lib.hid (CT.mk hCp (Ty_R ho6p))
          have KHPd := Lib.hid hkp
          clear ho6p hCp hkp
          clear hb6
          obtain ⟨A4, c4, hbx, hk4, hCT4⟩ := HX.out
          obtain ⟨i0, hi0, hz0⟩ := info_of info_u8
          obtain ⟨A5, c5, hcut, hc5, hread⟩ := cutf (P := Try.prog) .u8 .u64 25 5 Try.underlying25 hi0 hz0 A4 T2.length c4 (n : Int) (T2.length - n) (by omega) (by have := HNN.out; omega) hk4
          have hC5 := (hread _ T2 rfl hCT4.C).1
          rw [Int.toNat_natCast, HD.out] at hC5
          have HC5 := Lib.hid (show (Kd.int .u8).C w6 A5 D.length D from by rw [HDL.out]; exact hC5)
          rw [← HDL.out] at hcut
          have x0 := (cells_rf hbx).1
          have x1 := (cells_rf hbx).2.1
          clear hk4 hCT4 hread hC5 hc5 hi0 hz0 hbx
          have s1 : IntKind.u64.wrap (T2.length : Int) = T2.length := wraps_u64 _ (by omega) (by have := HNN.out; have := HI.out; omega)
          have z1 : (0 : Int) ≤ (n : Int) := by omega
          go_wp2_with fail
          refine Q.wp_region_segs none [([0, 1, 2, 3, 4, 5, 6, 7, 8, 9, 10, 11, 12, 13, 14, 15, 16, 17, 18, 19, 20, 21, 22, 24, 25, 26, 27, 28, 29], some 23), ([30, 31, 32, 33, 35], some 34), ([36, 37], none)] (by kernel_rfl) (by kernel_rfl) (by kernel_rfl) (by kernel_rfl) ?_
          dsimp only [Q.wpSegs, Q.picks, Q.pick]
          replace HS := Lib.hid (HS.out.below (stay0 _))
          replace HX := Lib.hid (HX.out.below (stay0 _))
          replace HK := Lib.hid (HK.out.below (stay0 _))
          replace HB := Lib.hid (HB.out.drew)
          replace HTa := Lib.hid (HTa.out.below (stay0 _))
          replace HTb := Lib.hid (HTb.out.below (stay0 _))
          replace HPd := Lib.hid (HPd.out.below (stay0 _))
          replace HC5 := Lib.hid (Kd.C_drew HC5.out)
          have q1 : ∀ m : Q.GW (w6).drew w6.heap.size none, (convert 25 9 (.slice Ap D.length cp)).run Try.prog m.w = .ok (.string (strOfNums D)) m.w := fun m => Kd.C_string Try.underlying25 Try.underlying5 Try.underlying9 (Kd.C_below HPd.out.C m.below)
          have q2 : ∀ m : Q.GW (w6).drew w6.heap.size none, (convert 25 9 (.slice A5 D.length c5)).run Try.prog m.w = .ok (.string (strOfNums D)) m.w := fun m => Kd.C_string Try.underlying25 Try.underlying5 Try.underlying9 (Kd.C_below HC5.out m.below)
          have q3 : ∀ m : Q.GW (w6).drew w6.heap.size none, m.w.cell? ⟨bx, 0, none⟩ = some (.slice A4 T2.length c4) := fun m => pw_cell_below (stay1 (stay0 w6) m.below) x0
          have q4 : ∀ m : Q.GW (w6).drew w6.heap.size none, m.w.cell? ⟨bx, 1, none⟩ = some (.int .u64 n) := fun m => pw_cell_below (stay1 (stay0 w6) m.below) x1
          repeat (go_big_quiet_step (fail))
          refine wpQuiet_nil ?_
          clear z1 hcut x0 x1
          clear q1 q2 q3 q4
          go_wp2_with (go_at_call 27; refine (count_as bs n D T2.length _ HS.out (by have := HNN.out; have := HDL.out; omega) (by have := HNN.out; have := HI.out; omega)).mono ?_; rintro e w7 ⟨rfl, hb7⟩; (have Hb7 := Lib.hid hb7); clear hb7)
          refine Q.ev_done Hb7.out (Nat.le_refl _) ?_
          replace HS := Lib.hid (HS.out.below Hb7.out)
          replace HX := Lib.hid (HX.out.below Hb7.out)
          replace HK := Lib.hid (HK.out.below Hb7.out)
          replace HB := Lib.hid (stay1 HB.out Hb7.out)
          replace HTa := Lib.hid (HTa.out.below Hb7.out)
          replace HTb := Lib.hid (HTb.out.below Hb7.out)
          replace HPd := Lib.hid (HPd.out.below Hb7.out)
          replace HC5 := Lib.hid (Kd.C_below HC5.out Hb7.out)
          clear Hb7
          repeat (go_big_quiet_step (fail))
          refine wpQuiet_nil ?_
          go_wp2_with (go_at_call 33; refine (scount_b bk (kn + L.length) _ HK.out).mono ?_; rintro e w8 ⟨rfl, hb8⟩; (have Hb8 := Lib.hid hb8); clear hb8)
          refine Q.ev_done Hb8.out (Nat.le_refl _) ?_
          replace HS := Lib.hid (HS.out.below Hb8.out)
          replace HX := Lib.hid (HX.out.below Hb8.out)
          replace HK := Lib.hid (HK.out.below Hb8.out)
          replace HB := Lib.hid (stay1 HB.out Hb8.out)
          replace HTa := Lib.hid (HTa.out.below Hb8.out)
          replace HTb := Lib.hid (HTb.out.below Hb8.out)
          replace HPd := Lib.hid (HPd.out.below Hb8.out)
          replace HC5 := Lib.hid (Kd.C_below HC5.out Hb8.out)
          clear Hb8
          repeat (go_big_quiet_step (fail))
          refine wpQuiet_nil ?_
          refine NoPanic.normal ?_
          clear s1
          go_wp2
          go_roundg g
          case measure => omega
          case rel => exact ⟨i + 1, n, (kn + L.length), T2, by go_num, rfl, Lib.hid (by have := HI.out; omega), HNN, Lib.hid (by rw [HD.out]; exact HS.out), HX, HK, HB⟩
      · clear HO HOK
        have hex : ¬ i < l.length ∨ (i < l.length ∧ ¬ i < 60) := by omega
        clear hlt
        rcases hex with hx | ⟨hx, hx2⟩
        all_goals
          obtain ⟨z1, hz1⟩ : ∃ z1, z1 = wr.alloc (.cells #[.bool false, .int .u64 0, .slice none 0 0] 58) := ⟨_, rfl⟩
          have hy1 : Below wr.heap.size wr z1 := by rw [hz1]; exact (Below.refl _ _).alloc (Nat.le_refl _) _
          have c1 : z1.cell? ⟨wr.heap.size, 0, none⟩ = some (.bool false) := by
            have h' := heap_alloc_new wr (.cells #[.bool false, .int .u64 0, .slice none 0 0] 58)
            rw [← hz1] at h'
            simp [World.cell?, h']
          obtain ⟨z2, hz2⟩ : ∃ z2, z2 = z1.alloc (.cells #[.bool false, .int .u64 0] 60) := ⟨_, rfl⟩
          have hy2 : Below z1.heap.size z1 z2 := by rw [hz2]; exact (Below.refl _ _).alloc (Nat.le_refl _) _
          have c2 : z2.cell? ⟨z1.heap.size, 0, none⟩ = some (.bool false) := by
            have h' := heap_alloc_new z1 (.cells #[.bool false, .int .u64 0] 60)
            rw [← hz2] at h'
            simp [World.cell?, h']
          have hsz : z1.heap.size = wr.heap.size + 1 := by rw [hz1]; simp
          rw [hsz] at c2
          have C1 := Lib.hid (pw_cell_below hy2 c1)
          have C2 := Lib.hid c2
          replace HB := Lib.hid (stay1 (stay1 HB.out hy1) hy2)
          rw [hz1] at hz2
          clear hy1 hy2 c1 c2 hsz hz1
          go_wp2_with fail
          rw [← hz2]
          clear hz2
          refine (nil_take 0 none 0 0 _).mono ?_
          rintro e wx ⟨rfl, rfl⟩
          go_wp2_with fail
          refine (zero_take _ 0 none 0 0 _ C2.out).mono ?_
          rintro e wy ⟨rfl, rfl⟩
          go_wp2_with fail
          refine (nil_pending _).mono ?_
          rintro e wz ⟨rfl, rfl⟩
          go_wp2_with fail
          refine (alive_any _).mono ?_
          rintro e wa ⟨rfl, hba⟩
          replace HB := Lib.hid (stay1 HB.out hba)
          replace C1 := Lib.hid (pw_cell_below hba C1.out)
          clear hba
          go_wp2_with fail
          refine (nil_type none 0 0 _).mono ?_
          rintro e wb ⟨rfl, rfl⟩
          go_wp2_with fail
          refine (zero_type _ none 0 0 _ C1.out).mono ?_
          rintro e wc ⟨rfl, rfl⟩
          go_wp2_with fail
          refine (nil_ack 0 _).mono ?_
          rintro e wd ⟨rfl, rfl⟩
          go_wp2_with fail
          refine (zero_ack _ 0 _ C1.out).mono ?_
          rintro e we ⟨rfl, rfl⟩
          go_wp2_with fail
          refine (nil_count _).mono ?_
          rintro e wf ⟨rfl, rfl⟩
          go_wp2_with fail
          refine (nil_scount _).mono ?_
          rintro e wg ⟨rfl, rfl⟩
          go_wp2
          go_ret
          exact ⟨rfl, HB.out⟩
end Go.Proofs.Ytigbmbmngkmdlaa.Ke
