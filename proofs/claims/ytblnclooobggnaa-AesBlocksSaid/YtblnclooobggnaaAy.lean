/-
  aes: AesBlocks.
-/
import Derived.Test.YtblnclooobggnaaAx
import Derived.Test.YtblnclooobggnaaAu
import Derived.Test.YtblnclooobggnaaAq
import Derived.Deep.DeepCutAuto
import Derived.Deep.CutRange
namespace Go.Proofs.Ytblnclooobggnaa.A
open Go.RowKit Go.Proofs.Ytblnclooobggnaa.L Go.Proofs.Ytblnclooobggnaa.N Go.Proofs.YtblnclooobggnaaW.PrintWords

structure BS (key a b : List Nat) (n0 c : Nat) (tn : Int) (A8 : Option Addr) (w ww : World) : Prop where
  s : AS key a b n0 w ww
  cu : CU c key tn ww
  hc : n0 + 3 ≤ c
  bx : (Kd.int .i64).C ww A8 256 (nat boxT)
  ty : Ty ww tI A8
theorem BS.below {key a b : List Nat} {n0 c : Nat} {tn : Int} {A8 : Option Addr} {w ww w' : World} (h : BS key a b n0 c tn A8 w ww) (hb : Below ww.heap.size ww w') : BS key a b n0 c tn A8 w w' :=
  ⟨h.s.below hb, h.cu.below hb, h.hc, Kd.C_below h.bx hb, h.ty.below hb⟩
theorem BS.turned {key a b : List Nat} {n0 c : Nat} {tn tn2 : Int} {A8 : Option Addr} {w ww w' : World} (h : BS key a b n0 c tn A8 w ww) (hg : ww.grownBy w' (some c)) (hc : CU c key tn2 w') : BS key a b n0 c tn2 A8 w w' := by
  obtain ⟨cs, hb⟩ := h.cu.blk
  exact ⟨h.s.grown hg h.hc, hc, h.hc, C_ty h.bx h.ty hb (by decide) hg, h.ty.move (grown_keep hg h.ty hb (by decide))⟩
theorem BS.other {key a b : List Nat} {n0 c g : Nat} {tn : Int} {A8 : Option Addr} {w ww w' : World} (h : BS key a b n0 c tn A8 w ww) (hg : ww.grownBy w' (some g)) {t : TypeId} {cs : Array Value} {fr : Nat × Nat} (hb : ww.heap[g]? = some (.cells cs t fr)) (hne : tI ≠ t) (hcg : c < g) : BS key a b n0 c tn A8 w w' :=
  ⟨h.s.grown hg (by have := h.hc; omega), h.cu.grown hg (by omega), h.hc, C_ty h.bx h.ty hb hne hg, h.ty.move (grown_keep hg h.ty hb hne)⟩
theorem gr_c {B c : Nat} {W w1 : World} (hg : W.grownBy w1 (some c)) (hc : B ≤ c) (hB : B ≤ W.heap.size) : Q.Gr B none W w1 :=
  ⟨hg.os, hg.tape, hg.output, hg.size, fun k hk _ => hg.block k (by omega) (fun he => by injection he; omega)⟩
theorem eq_dW (d : Nat) (W : World) : (Op.equalIn (d + 1 + 1 + 1) tW (.agg (arr .u8 z176)) (.agg (arr .u8 z176))).run Try.prog W = .ok true W := by kernel_rfl
theorem eq_WW (W : World) : (Op.equalIn 10000 tW (.agg (arr .u8 z176)) (.agg (arr .u8 z176))).run Try.prog W = .ok true W := eq_dW 9997 W
theorem eq_WL (W : World) : (Op.equalIn 10000 tW (.agg (arr .u8 z176)) (.agg Try.zeroCells37)).run Try.prog W = .ok true W := by
  rw [show Try.zeroCells37 = arr .u8 z176 from by kernel_rfl]
  exact eq_WW W
theorem str16 {A : Option Addr} {c : Nat} {l : List Nat} {w : World} (h : (Kd.int .u8).C w A 16 (nat l)) (hl : l.length = 16) : (convert 41 9 (.slice A 16 c)).run Try.prog w = .ok (.string (strOfNums (nat l))) w := by
  have h2 : (Kd.int .u8).C w A (nat l).length (nat l) := by rw [nat_length, hl]; exact h
  have := Kd.C_string (P := Try.prog) (src := 41) (dst := 9) (e := 5) (c := c) Try.underlying41 Try.underlying5 Try.underlying9 h2
  rwa [nat_length, hl] at this
theorem row16 {t : TypeId} {b : Nat} {l : List Nat} {w : World} (h : AB .u8 t b l w) (hl : l.length = 16) : (Kd.int .u8).C w (some ⟨b, 0, none⟩) 16 (nat l) := by
  have := ab_row h (by rw [hl]; decide)
  rwa [hl] at this
set_option maxRecDepth 100000 in
set_option maxHeartbeats 6400000 in
theorem blocks_walk (key a b : List Nat) (w : World) (hk : key.length = 16) (hk8 : ∀ z ∈ key, z < 256) (ha : a.length = 16) (ha8 : ∀ z ∈ a, z < 256) (hb : b.length = 16) (hb8 : ∀ z ∈ b, z < 256) :
    Calls Try.prog 5 #[.agg (arr .u8 key), .agg (arr .u8 a), .agg (arr .u8 b)] w fun e w' => e = .returned (.bool true) ∧ Below w.heap.size w w' := by
  have HK := Lib.hid hk
  have HTa := Lib.hid (fun c W (h : CU c key 0 W) => turn_any c 0 key a W h ⟨by omega, by omega⟩ hk hk8 ha ha8)
  have HTb := Lib.hid (fun c W (h : CU c key 1 W) => turn_any c 1 key b W h ⟨by omega, by omega⟩ hk hk8 hb hb8)
  have HWa := Lib.hid (fun c W (h : CU c key 2 W) => words_any c 2 key W h hk hk8)
  have HRW := Lib.hid (fun A A2 c c2 W hC hC2 => refwords_any key A A2 c c2 W hC hk hk8 hC2)
  have HRa := Lib.hid (fun A A1 A2 c c1 c2 W hC hC1 hC2 => refturn_any key a A A1 A2 c c1 c2 W hC hk hk8 hC1 ha ha8 hC2)
  have HRb := Lib.hid (fun A A1 A2 c c1 c2 W hC hC1 hC2 => refturn_any key b A A1 A2 c c1 c2 W hC hk hk8 hC1 hb hb8 hC2)
  have HPl := Lib.hid (turnP_len key a)
  have HQl := Lib.hid (turnP_len key b)
  have HAl := Lib.hid ha
  have HBl := Lib.hid hb
  have HWl := Lib.hid (WK_len hk)
  have HW8 := Lib.hid (WK_lt hk8)
  have hi := info_W
  rw [← WK_len hk] at hi
  have Hi := Lib.hid hi
  clear hi hk hk8 ha ha8 hb hb8
  generalize turnP key a = P at *
  generalize turnP key b = R at *
  generalize WK key = V at *
  have HPi := Lib.hid (show (Try.prog.info? tB).map (·.size) = some P.length from by rw [HPl.out]; exact info_B)
  have HQi := Lib.hid (show (Try.prog.info? tB).map (·.size) = some R.length from by rw [HQl.out]; exact info_B)
  go_enter Try.func5, Try.ntmps5
  go_upto_region 1 with (fail)
  refine wp_at fun W hW => ?_
  obtain ⟨W1, hW1⟩ : ∃ W1, W1 = (w.alloc (.cells (arr .u8 key) 27)).alloc (.cells (arr .u8 a) tB) := ⟨_, rfl⟩
  have hW2 : W = W1.alloc (.cells (arr .u8 b) tB) := by rw [hW1]; exact hW
  obtain ⟨g1, g2, g3, g4⟩ := two_ab (k := .u8) (k' := .u8) key a hW1
  have gb : Below W1.heap.size W1 W := by rw [hW2]; exact (Below.refl _ _).alloc (Nat.le_refl _) _
  have HS := Lib.hid (show AS key a b w.heap.size w W from ⟨g1.below g1.lt gb, g2.below g2.lt gb, by rw [hW2, ← g4]; exact AB.mk W1 .u8 _ b, g3.trans (gb.mono (by omega))⟩)
  clear hW hW1 hW2 g1 g2 g3 g4 gb
  generalize hn : w.heap.size = n0 at *
  have Hn := Lib.hid hn
  clear hn
  go_upto_region 2 with (first
    | (refine load_ab .u8 n0 key rfl rfl rfl HS.out.k Try.underlying27 (by rw [HK.out]; exact info_key) ?_)
    | (go_at_call 16; refine (new_any key W HK.out).mono ?_; rintro e w3 ⟨c, rfl, hc1, hc2, hc3⟩; (have HC1 := Lib.hid (show n0 + 3 ≤ c from by have := HS.out.b.lt; omega)); (have HCU := Lib.hid hc2); (have HS3 := Lib.hid (HS.out.below hc3)); clear hc1 hc2 hc3))
  go_upto_region 3 with (first
    | (go_at_call 18; refine (refboxes_any w3).mono ?_; rintro e w4 ⟨v8, rfl, hr, hb4⟩; obtain ⟨A8, c8, h1, h2, h3⟩ := Kd.R_reads hr; rw [nat_length, boxT_len] at h1 h2 h3; (have HX := Lib.hid (show BS key a b n0 c 0 A8 w w4 from ⟨HS3.out.below hb4, HCU.out.below hb4, HC1.out, h3, Ty_R (by rw [← h1]; exact hr)⟩)); subst h1; clear hr hb4 h2 h3))
  clear HS HC1 HCU HS3
  have HT1 := Lib.hid (HTa.out c w4 HX.out.cu)
  clear HTa
  go_upto_region 4 with (first
    | (refine load_ab .u8 (n0 + 1) a rfl rfl rfl HX.out.s.a Try.underlying26 (by rw [HAl.out]; exact info_B) ?_)
    | (go_at_call 17; refine HT1.out.mono ?_; rintro e w5 ⟨rfl, hcu, hg⟩; (have HX5 := Lib.hid (HX.out.turned hg (.inl hcu))); clear hcu hg HT1)
    | (refine store_ab .u8 w5.heap.size z16 P rfl rfl rfl rfl rfl (AB.mk w5 .u8 _ z16) HPi.out (by rw [HPl.out]; rfl) ?_; intro w6 h6 hg6; (have HP6 := Lib.hid h6); (have HG6 := Lib.hid (below_new hg6)); clear h6 hg6))
  have HX6 := Lib.hid (HX5.out.below HG6.out.1)
  have HN6 := Lib.hid (show c < w5.heap.size from HX5.out.cu.lt)
  clear HX HX5 HG6
  generalize w5.heap.size = nx at *
  have HT2 := Lib.hid (HTb.out c w6 HX6.out.cu)
  clear HTb
  go_upto_region 5 with (first
    | (refine load_ab .u8 (n0 + 2) b rfl rfl rfl HX6.out.s.b Try.underlying26 (by rw [HBl.out]; exact info_B) ?_)
    | (go_at_call 17; refine HT2.out.mono ?_; rintro e w7 ⟨rfl, hcu, hg⟩; (have HX7 := Lib.hid (HX6.out.turned hg (.inl hcu))); (have HP7 := Lib.hid (HP6.out.grown hg (fun e => by injection e with e; have := HN6.out; omega))); clear hcu hg HT2)
    | (refine store_ab .u8 w7.heap.size z16 R rfl rfl rfl rfl rfl (AB.mk w7 .u8 _ z16) HQi.out (by rw [HQl.out]; rfl) ?_; intro w8 h8 hg8; (have HQ8 := Lib.hid h8); (have HG8 := Lib.hid (below_new hg8)); clear h8 hg8))
  have HX8 := Lib.hid (HX7.out.below HG8.out.1)
  have HP8 := Lib.hid (HP7.out.below HP7.out.lt HG8.out.1)
  have HN8 := Lib.hid (show c < w7.heap.size from HX7.out.cu.lt)
  clear HX6 HX7 HP6 HP7 HG8
  generalize w7.heap.size = ny at *
  go_cut [13, 14] (fun v13 v14 wx => ∃ nw : Nat, v13 = .pointer (some ⟨nw, 0, none⟩) ∧ Hid (AB .u8 tW nw V wx) ∧ Hid (WD V 44 v14 wx) ∧ Hid (BS key a b n0 c 2 (A8) w wx) ∧ Hid (AB .u8 tB nx P wx) ∧ Hid (AB .u8 tB ny R wx))
  case first =>
    have HXd := Lib.hid (HX8.out.below (stay0 w8))
    have HPd := Lib.hid HP8.out.drew
    have HQd := Lib.hid HQ8.out.drew
    clear HX8 HP8 HQ8
    refine Q.wp_region_trB (n0 + 3) none (.two [0, 2, 3] 1 (.two [] 4 (.ev [] 5 (.ev [] 6 (.done [7]))) 5 (.ev [] 4 (.ev [] 6 (.done [7])))) 5 (.ev [] 1 (.ev [] 4 (.ev [] 6 (.done [7]))))) (by kernel_rfl) (by kernel_rfl) (by kernel_rfl) (by kernel_rfl) ?_
    dsimp only [Q.wpTr, Q.picks, Q.pick]
    obtain ⟨Wd, hWd⟩ : ∃ W', w8.drew = W' := ⟨_, rfl⟩
    rw [hWd] at HXd HPd HQd ⊢
    clear hWd
    repeat (go_big_quiet_step (fail))
    refine wpQuiet_nil ?_
    refine ⟨?_, ?_⟩
    · go_wp2_with fail
      refine (HWa.out c _ HXd.out.cu).mono ?_
      rintro e Y1 ⟨rfl, hcu, hg⟩
      have X1 := Lib.hid (HXd.out.turned hg (.inl hcu))
      have P1 := Lib.hid (HPd.out.grown hg (fun e => by injection e with e; have := HN6.out; omega))
      have R1 := Lib.hid (HQd.out.grown hg (fun e => by injection e with e; have := HN8.out; omega))
      have HG := Lib.hid (gr_c hg HXd.out.hc (by have := HXd.out.hc; have := HXd.out.cu.lt; omega))
      clear hcu hg
      go_wp2_with fail
      refine Q.ev_app HG.out (Nat.le_refl _) (Q.NewRow.self _ _) ?_
      clear HG
      first | refine wpQuiet_nil ?_ | skip
      refine ⟨?_, ?_⟩
      · go_wp2_with fail
        refine (HRW.out _ _ _ _ _ (row16 X1.out.s.k HK.out) X1.out.bx).mono ?_
        rintro e Y2 ⟨v14, rfl, hwd, hb⟩
        have X2 := Lib.hid (X1.out.below hb)
        have P2 := Lib.hid (P1.out.below P1.out.lt hb)
        have R2 := Lib.hid (R1.out.below R1.out.lt hb)
        have D2 := Lib.hid hwd
        have HG := Lib.hid hb
        clear hwd hb
        go_wp2_with fail
        refine Q.ev_keep HG.out (by have := X1.out.hc; have := X1.out.cu.lt; omega) ?_
        clear HG
        first | refine wpQuiet_nil ?_ | skip
        go_wp2_with fail
        refine ev_keepN ((Below.refl _ _).alloc (Nat.le_refl _) _) (by have := X2.out.hc; have := X2.out.cu.lt; omega) fun Y3 hY => ?_
        have hb : Below Y2.heap.size Y2 Y3 := by rw [hY]; exact (Below.refl _ _).alloc (Nat.le_refl _) _
        have X3 := Lib.hid (X2.out.below hb)
        have P3 := Lib.hid (P2.out.below P2.out.lt hb)
        have R3 := Lib.hid (R2.out.below R2.out.lt hb)
        have Z3 := Lib.hid (show AB .u8 tW Y2.heap.size z176 Y3 from by rw [hY]; exact AB.mk Y2 .u8 tW z176)
        have NZ3 := Lib.hid (show c < Y2.heap.size ∧ nx < Y2.heap.size ∧ ny < Y2.heap.size from ⟨X2.out.cu.lt, P2.out.lt, R2.out.lt⟩)
        have D3 := Lib.hid (D2.out.below hb)
        clear hb hY
        first | refine wpQuiet_nil ?_ | skip
        refine store_ab .u8 Y2.heap.size z176 V rfl rfl rfl rfl rfl Z3.out Hi.out (by rw [HWl.out]; exact List.length_replicate) ?_
        intro Y4 h9 hg9
        have hX := X3.out.other hg9 Z3.out (by decide) NZ3.out.1
        have hP := P3.out.grown hg9 (fun e => by injection e with e; have := NZ3.out; omega)
        have hR := R3.out.grown hg9 (fun e => by injection e with e; have := NZ3.out; omega)
        have hD := D3.out.ty Z3.out (by decide) (by decide) hg9
        refine Q.ev_app (gr_c hg9 (show n0 + 3 ≤ Y2.heap.size from by have := NZ3.out; have := X3.out.hc; omega) (by have := X3.out.hc; have := X3.out.cu.lt; omega)) (Nat.le_refl _) (Q.NewRow.self _ _) ?_
        repeat (go_big_quiet_step (fail))
        refine wpQuiet_nil ?_
        refine NoPanic.normal ?_
        go_wp2_with fail
        go_meet
        exact ⟨_, rfl, Lib.hid h9, Lib.hid hD, Lib.hid hX, Lib.hid hP, Lib.hid hR⟩
      · go_wp2_with fail
        refine ev_keepN ((Below.refl _ _).alloc (Nat.le_refl _) _) (by have := X1.out.hc; have := X1.out.cu.lt; omega) fun Y5 hY => ?_
        have hb : Below Y1.heap.size Y1 Y5 := by rw [hY]; exact (Below.refl _ _).alloc (Nat.le_refl _) _
        have X5 := Lib.hid (X1.out.below hb)
        have P5 := Lib.hid (P1.out.below P1.out.lt hb)
        have R5 := Lib.hid (R1.out.below R1.out.lt hb)
        have Z5 := Lib.hid (show AB .u8 tW Y1.heap.size z176 Y5 from by rw [hY]; exact AB.mk Y1 .u8 tW z176)
        have NZ5 := Lib.hid (show c < Y1.heap.size ∧ nx < Y1.heap.size ∧ ny < Y1.heap.size from ⟨X1.out.cu.lt, P1.out.lt, R1.out.lt⟩)
        clear hb hY
        first | refine wpQuiet_nil ?_ | skip
        go_wp2_with fail
        refine (HRW.out _ _ _ _ _ (row16 X5.out.s.k HK.out) X5.out.bx).mono ?_
        rintro e Y6 ⟨v14, rfl, hwd, hb⟩
        have X6 := Lib.hid (X5.out.below hb)
        have P6 := Lib.hid (P5.out.below P5.out.lt hb)
        have R6 := Lib.hid (R5.out.below R5.out.lt hb)
        have Z6 := Lib.hid (Z5.out.below Z5.out.lt hb)
        have D6 := Lib.hid hwd
        have HG := Lib.hid hb
        clear hwd hb
        go_wp2_with fail
        refine Q.ev_keep HG.out (by have := X5.out.hc; have := X5.out.cu.lt; omega) ?_
        clear HG
        first | refine wpQuiet_nil ?_ | skip
        refine store_ab .u8 Y1.heap.size z176 V rfl rfl rfl rfl rfl Z6.out Hi.out (by rw [HWl.out]; exact List.length_replicate) ?_
        intro Y7 h9 hg9
        have hX := X6.out.other hg9 Z6.out (by decide) NZ5.out.1
        have hP := P6.out.grown hg9 (fun e => by injection e with e; have := NZ5.out; omega)
        have hR := R6.out.grown hg9 (fun e => by injection e with e; have := NZ5.out; omega)
        have hD := D6.out.ty Z6.out (by decide) (by decide) hg9
        refine Q.ev_app (gr_c hg9 (show n0 + 3 ≤ Y1.heap.size from by have := NZ5.out; have := X6.out.hc; omega) (by have := X6.out.hc; have := X6.out.cu.lt; omega)) (Nat.le_refl _) (Q.NewRow.self _ _) ?_
        repeat (go_big_quiet_step (fail))
        refine wpQuiet_nil ?_
        refine NoPanic.normal ?_
        go_wp2_with fail
        go_meet
        exact ⟨_, rfl, Lib.hid h9, Lib.hid hD, Lib.hid hX, Lib.hid hP, Lib.hid hR⟩
    · go_wp2_with fail
      refine ev_keepN ((Below.refl _ _).alloc (Nat.le_refl _) _) (by have := HXd.out.hc; have := HXd.out.cu.lt; omega) fun Y8 hY => ?_
      have hb : Below Wd.heap.size Wd Y8 := by rw [hY]; exact (Below.refl _ _).alloc (Nat.le_refl _) _
      have X8 := Lib.hid (HXd.out.below hb)
      have P8 := Lib.hid (HPd.out.below HPd.out.lt hb)
      have R8 := Lib.hid (HQd.out.below HQd.out.lt hb)
      have Z8 := Lib.hid (show AB .u8 tW Wd.heap.size z176 Y8 from by rw [hY]; exact AB.mk Wd .u8 tW z176)
      have NZ8 := Lib.hid (show c < Wd.heap.size ∧ nx < Wd.heap.size ∧ ny < Wd.heap.size from ⟨HXd.out.cu.lt, HPd.out.lt, HQd.out.lt⟩)
      clear hb hY
      first | refine wpQuiet_nil ?_ | skip
      go_wp2_with fail
      refine (HWa.out c _ X8.out.cu).mono ?_
      rintro e Y9 ⟨rfl, hcu, hg⟩
      have X9 := Lib.hid (X8.out.turned hg (.inl hcu))
      have P9 := Lib.hid (P8.out.grown hg (fun e => by injection e with e; have := HN6.out; omega))
      have R9 := Lib.hid (R8.out.grown hg (fun e => by injection e with e; have := HN8.out; omega))
      have Z9 := Lib.hid (Z8.out.grown hg (fun e => by injection e with e; have := NZ8.out; omega))
      have HG := Lib.hid (gr_c hg X8.out.hc (by have := X8.out.hc; have := X8.out.cu.lt; omega))
      clear hcu hg
      go_wp2_with fail
      refine Q.ev_app HG.out (Nat.le_refl _) (Q.NewRow.self _ _) ?_
      clear HG
      first | refine wpQuiet_nil ?_ | skip
      go_wp2_with fail
      refine (HRW.out _ _ _ _ _ (row16 X9.out.s.k HK.out) X9.out.bx).mono ?_
      rintro e Y10 ⟨v14, rfl, hwd, hb⟩
      have X10 := Lib.hid (X9.out.below hb)
      have P10 := Lib.hid (P9.out.below P9.out.lt hb)
      have R10 := Lib.hid (R9.out.below R9.out.lt hb)
      have Z10 := Lib.hid (Z9.out.below Z9.out.lt hb)
      have D10 := Lib.hid hwd
      have HG := Lib.hid hb
      clear hwd hb
      go_wp2_with fail
      refine Q.ev_keep HG.out (by have := X9.out.hc; have := X9.out.cu.lt; omega) ?_
      clear HG
      first | refine wpQuiet_nil ?_ | skip
      refine store_ab .u8 Wd.heap.size z176 V rfl rfl rfl rfl rfl Z10.out Hi.out (by rw [HWl.out]; exact List.length_replicate) ?_
      intro Y11 h9 hg9
      have hX := X10.out.other hg9 Z10.out (by decide) NZ8.out.1
      have hP := P10.out.grown hg9 (fun e => by injection e with e; have := NZ8.out; omega)
      have hR := R10.out.grown hg9 (fun e => by injection e with e; have := NZ8.out; omega)
      have hD := D10.out.ty Z10.out (by decide) (by decide) hg9
      refine Q.ev_app (gr_c hg9 (show n0 + 3 ≤ Wd.heap.size from by have := NZ8.out; have := X10.out.hc; omega) (by have := X10.out.hc; have := X10.out.cu.lt; omega)) (Nat.le_refl _) (Q.NewRow.self _ _) ?_
      repeat (go_big_quiet_step (fail))
      refine wpQuiet_nil ?_
      refine NoPanic.normal ?_
      go_wp2_with fail
      go_meet
      exact ⟨_, rfl, Lib.hid h9, Lib.hid hD, Lib.hid hX, Lib.hid hP, Lib.hid hR⟩
  case rest =>
    clear HX8 HP8 HQ8
    obtain ⟨nw, rfl, HV, HD, HX, HP, HR⟩ := hcut
    obtain ⟨bv, ov, cv, rfl, hbv, _, hat⟩ := HD.out
    obtain ⟨n1, hn1⟩ : ∃ y, wc.heap.size = y := ⟨_, rfl⟩
    have HNv := Lib.hid (show bv < n1 ∧ nw < n1 from ⟨by rw [← hn1]; exact hbv, by rw [← hn1]; exact HV.out.lt⟩)
    have HAt := Lib.hid hat
    have Hn1 := Lib.hid hn1
    clear hbv hat hn1 HD
    go_wp2_with fail
    go_loopg [15] 46 (fun g v15 w' => ∃ i : Nat, v15 = .int .i64 (i : Int) ∧ Hid (i ≤ 44 ∧ 44 < g + i) ∧ Hid (Below n1 wc w'))
    case atStart => exact ⟨0, rfl, Lib.hid ⟨by omega, by omega⟩, Lib.hid (Below.refl _ _)⟩
    case round =>
      obtain ⟨i, rfl, HJ, HB⟩ := hrel
      cases gk with
      | zero => have := HJ.out; omega
      | succ g1 =>
        by_cases hi : i < 44
        · have HJ' := Lib.hid (show i < 44 ∧ 44 < (g1 + 1) + i from ⟨hi, HJ.out.2⟩)
          have z0 : (i : Int) < 44 := by omega
          have z1 : (0 : Int) ≤ (i : Int) := by omega
          obtain ⟨b3, o3, c3, hb3, _, hc3, hk3⟩ := HAt.out i hi
          have HC3 := Lib.hid hc3
          have HK3 := Lib.hid hk3
          have HB3 := Lib.hid (show b3 < n1 from by rw [← Hn1.out]; exact hb3)
          clear hi HJ hb3 hc3 hk3
          go_wp2_with fail
          go_loopg [16] 6 (fun g v16 w' => ∃ k : Nat, v16 = .int .i64 (k : Int) ∧ Hid (k ≤ 4 ∧ 4 < g + k) ∧ Hid (Below n1 wc w'))
          case atStart => exact ⟨0, rfl, Lib.hid ⟨by omega, by omega⟩, HB⟩
          case round =>
            obtain ⟨k, rfl, HI, HBk⟩ := hrel
            clear HB
            cases gk with
            | zero => have := HI.out; omega
            | succ g2 =>
              by_cases hk : k < 4
              · have HI' := Lib.hid (show k < 4 ∧ 4 < (g2 + 1) + k from ⟨hk, HI.out.2⟩)
                have z2 : (k : Int) < 4 := by omega
                have z3 : (0 : Int) ≤ (k : Int) := by omega
                obtain ⟨va, hva⟩ : ∃ y, V.getD (4 * i + k) 0 = y := ⟨_, rfl⟩
                have q1 := gwB HNv.out.2 (show wc.cell? ⟨nw, i * 4 + k, none⟩ = some (.int .u8 (va : Nat)) from by rw [← hva, show i * 4 + k = 4 * i + k from by omega]; exact HV.out.cell (by rw [HWl.out]; have := HJ'.out; omega)) HBk.out
                have q2 := gwB HNv.out.1 HC3.out HBk.out
                have q3 := gwB HB3.out (HK3.out k hk) HBk.out
                rw [hva] at q3
                have a8 : (va : Int) < 256 := by have : va < 256 := by rw [← hva]; exact getD_lt0 (by decide) _ HW8.out
                                                 omega
                have HBs := Lib.hid (show n1 ≤ wr.heap.size from by have := HBk.out.size; have := Hn1.out; omega)
                clear hva hk HI
                go_wp2_with fail
                refine Q.wp_region_segsB n1 none [([0, 1, 2, 3, 4, 5, 6, 7, 8, 9, 10, 11, 12, 13], none)] (by kernel_rfl) (by kernel_rfl) (by kernel_rfl) (by kernel_rfl) ?_
                dsimp only [Q.wpSegs, Q.picks, Q.pick]
                repeat (go_big_quiet_step (fail))
                refine wpQuiet_nil ?_
                refine NoPanic.normal ?_
                clear q1 q2 q3
                go_wp2_with fail
                go_roundg g2
                case measure => have := HI'.out; omega
                case rel => exact ⟨k + 1, by go_num, Lib.hid (by have := HI'.out; omega), Lib.hid HBk.out.drew⟩
              · obtain rfl : k = 4 := by have := HI.out; omega
                clear hk HI
                go_wp2_with fail
                go_roundg g1
                case measure => have := HJ'.out; omega
                case rel => exact ⟨i + 1, by go_num, Lib.hid (by have := HJ'.out; omega), HBk⟩
        · obtain rfl : i = 44 := by have := HJ.out; omega
          clear hi HJ
          have HBc := Lib.hid (show Below wc.heap.size wc wr from by rw [Hn1.out]; exact HB.out)
          have HXr := Lib.hid (HX.out.below HBc.out)
          have HPr := Lib.hid (HP.out.below HP.out.lt HBc.out)
          have HRr := Lib.hid (HR.out.below HR.out.lt HBc.out)
          clear HAt HNv HV HX HP HR HB HBc Hn1
          go_upto_region 16 with (fail)
          refine wp_at fun Wz hWz => ?_
          have hbz : Below wr.heap.size wr Wz := by rw [hWz]; exact (Below.refl _ _).alloc (Nat.le_refl _) _
          have c3 : Wz.cell? ⟨wr.heap.size, 3, none⟩ = some (.bool false) := by rw [hWz, World.cell?_alloc_mark]; rfl
          have c7 : Wz.cell? ⟨wr.heap.size, 708, none⟩ = some (.int .i64 0) := by rw [hWz, World.cell?_alloc_mark]; rfl
          have lz : wr.heap.size < Wz.heap.size := World.block_lt_of_cell? Wz _ c3
          have HX0 := Lib.hid (HXr.out.below hbz)
          have HP0 := Lib.hid (HPr.out.below HPr.out.lt hbz)
          have HR0 := Lib.hid (HRr.out.below HRr.out.lt hbz)
          clear HXr HPr HRr hWz hbz
          generalize wr.heap.size = nz at *
          have HZ0 := Lib.hid (show nz < Wz.heap.size ∧ Wz.cell? ⟨nz, 3, none⟩ = some (.bool false) ∧ Wz.cell? ⟨nz, 708, none⟩ = some (.int .i64 0) from ⟨lz, c3, c7⟩)
          clear lz c3 c7
          have Hz16 := Lib.hid (show (Try.prog.info? tB).map (·.size) = some z16.length from info_B)
          go_upto_region 17 with (first
            | (refine load_ab .u8 (n0 + 1) a rfl rfl rfl HX0.out.s.a Try.underlying26 (by rw [HAl.out]; exact info_B) ?_)
            | (go_at_call 17; refine (turn_none none a Wz (fun W _ => ready_nil W)).mono ?_; rintro e w5 ⟨rfl, hb5⟩; (have HB5 := Lib.hid hb5); clear hb5)
            | (refine store_ab .u8 w5.heap.size z16 z16 rfl rfl rfl rfl rfl (AB.mk w5 .u8 _ z16) Hz16.out rfl ?_; intro w6 h6 hg6; (have HB6 := Lib.hid (below_new hg6).1); clear h6 hg6))
          have HBz := Lib.hid (HB5.out.trans (HB6.out.mono HB5.out.size))
          have HA6 := Lib.hid (HX0.out.s.a.below HX0.out.s.a.lt HBz.out)
          have HRz := Lib.hid (fun W (hb : Below w6.heap.size w6 W) => ready_zero nz W (((HBz.out.trans (hb.mono HBz.out.size)).cell (p := ⟨nz, 3, none⟩) HZ0.out.1).trans HZ0.out.2.1))
          clear HB5 HB6
          go_upto_region 18 with (first
            | (refine load_ab .u8 (n0 + 1) a rfl rfl rfl HA6.out Try.underlying26 (by rw [HAl.out]; exact info_B) ?_)
            | (go_at_call 17; refine (turn_none (some ⟨nz, 0, none⟩) a w6 HRz.out).mono ?_; rintro e w7 ⟨rfl, hb7⟩; (have HB7 := Lib.hid hb7); clear hb7)
            | (refine store_ab .u8 w7.heap.size z16 z16 rfl rfl rfl rfl rfl (AB.mk w7 .u8 _ z16) Hz16.out rfl ?_; intro w8 h8 hg8; (have HB8 := Lib.hid (below_new hg8).1); clear h8 hg8))
          have HBy := Lib.hid (HB7.out.trans (HB8.out.mono HB7.out.size))
          have hB := HBz.out.trans (HBy.out.mono HBz.out.size)
          have HX8 := Lib.hid (HX0.out.below hB)
          have HP8 := Lib.hid (HP0.out.below HP0.out.lt hB)
          have HQ8 := Lib.hid (HR0.out.below HR0.out.lt hB)
          have HZ8 := Lib.hid (show nz < w8.heap.size ∧ w8.cell? ⟨nz, 3, none⟩ = some (.bool false) ∧ w8.cell? ⟨nz, 708, none⟩ = some (.int .i64 0) from ⟨Nat.lt_of_lt_of_le HZ0.out.1 hB.size, (hB.cell (p := ⟨nz, 3, none⟩) HZ0.out.1).trans HZ0.out.2.1, (hB.cell (p := ⟨nz, 708, none⟩) HZ0.out.1).trans HZ0.out.2.2⟩)
          clear HX0 HP0 HR0 HZ0 HBz HBy HB7 HB8 hB HA6 HRz
          refine Q.wp_region_segs none [([], some 0), ([1, 2, 3, 4, 5, 6, 7, 8, 9, 10, 11, 12, 13, 14], some 15), ([16, 17, 18, 19, 20, 21, 22, 23, 24], some 25), ([26, 27, 28, 29, 30], some 31), ([32, 33, 34, 35, 36, 37, 38, 39, 40, 41, 42, 43], some 44), ([], some 45), ([46, 47, 48, 49, 50, 52], some 51), ([53, 54, 55, 57], some 56), ([58, 59, 60], none)] (by kernel_rfl) (by kernel_rfl) (by kernel_rfl) (by kernel_rfl) ?_
          dsimp only [Q.wpSegs, Q.picks, Q.pick]
          refine wpQuiet_nil ?_
          go_wp2_with fail
          refine (alive_any _).mono ?_
          rintro e w9 ⟨rfl, hb9⟩
          have HBn := Lib.hid hb9
          have hbx := (stay0 w8).trans hb9
          have HX9 := Lib.hid (HX8.out.below hbx)
          have HP9 := Lib.hid (HP8.out.below HP8.out.lt hbx)
          have HQ9 := Lib.hid (HQ8.out.below HQ8.out.lt hbx)
          have HZ9 := Lib.hid (show nz < w9.heap.size ∧ w9.cell? ⟨nz, 3, none⟩ = some (.bool false) ∧ w9.cell? ⟨nz, 708, none⟩ = some (.int .i64 0) from ⟨Nat.lt_of_lt_of_le HZ8.out.1 hbx.size, (hbx.cell (p := ⟨nz, 3, none⟩) HZ8.out.1).trans HZ8.out.2.1, (hbx.cell (p := ⟨nz, 708, none⟩) HZ8.out.1).trans HZ8.out.2.2⟩)
          clear hbx hb9 HX8 HP8 HQ8 HZ8
          go_wp2_with fail
          refine Q.ev_done HBn.out (Nat.le_refl _) ?_
          clear HBn
          have hcv := fun (m : Q.GW w9 w9.heap.size none) => str16 (c := 16) (row16 (HP9.out.below HP9.out.lt m.below) HPl.out) HPl.out
          repeat (go_big_quiet_step (fail))
          refine wpQuiet_nil ?_
          clear hcv
          go_wp2_with fail
          refine (HRa.out _ _ _ _ _ _ _ (row16 HX9.out.s.k HK.out) (row16 HX9.out.s.a HAl.out) HX9.out.bx).mono ?_
          rintro e w10 ⟨A5, c5, rfl, _, hC5, hb10⟩
          have HC5 := Lib.hid hC5
          clear hC5
          have HBn := Lib.hid hb10
          have hbx := hb10
          have HX10 := Lib.hid (HX9.out.below hbx)
          have HP10 := Lib.hid (HP9.out.below HP9.out.lt hbx)
          have HQ10 := Lib.hid (HQ9.out.below HQ9.out.lt hbx)
          have HZ10 := Lib.hid (show nz < w10.heap.size ∧ w10.cell? ⟨nz, 3, none⟩ = some (.bool false) ∧ w10.cell? ⟨nz, 708, none⟩ = some (.int .i64 0) from ⟨Nat.lt_of_lt_of_le HZ9.out.1 hbx.size, (hbx.cell (p := ⟨nz, 3, none⟩) HZ9.out.1).trans HZ9.out.2.1, (hbx.cell (p := ⟨nz, 708, none⟩) HZ9.out.1).trans HZ9.out.2.2⟩)
          clear hbx hb10 HX9 HP9 HQ9 HZ9
          go_wp2_with fail
          refine Q.ev_done HBn.out (Nat.le_refl _) ?_
          clear HBn
          have hcv1 := fun (m : Q.GW w10 w10.heap.size none) => str16 (c := c5) (Kd.C_below HC5.out m.below) HPl.out
          have hcv2 := fun (m : Q.GW w10 w10.heap.size none) => str16 (c := 16) (row16 (HQ10.out.below HQ10.out.lt m.below) HQl.out) HQl.out
          repeat (go_big_quiet_step (fail))
          refine wpQuiet_nil ?_
          clear hcv1 hcv2 HC5
          go_wp2_with fail
          refine (HRb.out _ _ _ _ _ _ _ (row16 HX10.out.s.k HK.out) (row16 HX10.out.s.b HBl.out) HX10.out.bx).mono ?_
          rintro e w11 ⟨A5, c5, rfl, _, hC5, hb11⟩
          have HC5 := Lib.hid hC5
          clear hC5
          have HBn := Lib.hid hb11
          have hbx := hb11
          have HX11 := Lib.hid (HX10.out.below hbx)
          have HP11 := Lib.hid (HP10.out.below HP10.out.lt hbx)
          have HQ11 := Lib.hid (HQ10.out.below HQ10.out.lt hbx)
          have HZ11 := Lib.hid (show nz < w11.heap.size ∧ w11.cell? ⟨nz, 3, none⟩ = some (.bool false) ∧ w11.cell? ⟨nz, 708, none⟩ = some (.int .i64 0) from ⟨Nat.lt_of_lt_of_le HZ10.out.1 hbx.size, (hbx.cell (p := ⟨nz, 3, none⟩) HZ10.out.1).trans HZ10.out.2.1, (hbx.cell (p := ⟨nz, 708, none⟩) HZ10.out.1).trans HZ10.out.2.2⟩)
          clear hbx hb11 HX10 HP10 HQ10 HZ10
          go_wp2_with fail
          refine Q.ev_done HBn.out (Nat.le_refl _) ?_
          clear HBn
          have hcv1 := fun (m : Q.GW w11 w11.heap.size none) => str16 (c := c5) (Kd.C_below HC5.out m.below) HQl.out
          repeat (go_big_quiet_step (fail))
          refine wpQuiet_nil ?_
          clear hcv1 HC5
          go_wp2_with fail
          refine (turns_at c 2 _ HX11.out.cu.turns).mono ?_
          rintro e w12 ⟨rfl, hw⟩
          rw [hw]
          clear hw w12
          go_wp2_with fail
          refine Q.ev_done (Below.refl _ _) (Nat.le_refl _) ?_
          repeat (go_big_quiet_step (fail))
          refine wpQuiet_nil ?_
          go_wp2_with fail
          refine (turns_nil _).mono ?_
          rintro e w12 ⟨rfl, hw⟩
          rw [hw]
          clear hw w12
          go_wp2_with fail
          refine Q.ev_done (Below.refl _ _) (Nat.le_refl _) ?_
          refine wpQuiet_nil ?_
          go_wp2_with fail
          refine (turns_at nz 0 _ HZ11.out.2.2).mono ?_
          rintro e w12 ⟨rfl, hw⟩
          rw [hw]
          clear hw w12
          go_wp2_with fail
          refine Q.ev_done (Below.refl _ _) (Nat.le_refl _) ?_
          repeat (go_big_quiet_step (fail))
          refine wpQuiet_nil ?_
          go_wp2_with fail
          refine (words_none none _ (fun W _ => ready_nil W)).mono ?_
          rintro e w12 ⟨rfl, hb12⟩
          have HBn := Lib.hid hb12
          have hbx := hb12
          have HX12 := Lib.hid (HX11.out.below hbx)
          have HP12 := Lib.hid (HP11.out.below HP11.out.lt hbx)
          have HQ12 := Lib.hid (HQ11.out.below HQ11.out.lt hbx)
          have HZ12 := Lib.hid (show nz < w12.heap.size ∧ w12.cell? ⟨nz, 3, none⟩ = some (.bool false) ∧ w12.cell? ⟨nz, 708, none⟩ = some (.int .i64 0) from ⟨Nat.lt_of_lt_of_le HZ11.out.1 hbx.size, (hbx.cell (p := ⟨nz, 3, none⟩) HZ11.out.1).trans HZ11.out.2.1, (hbx.cell (p := ⟨nz, 708, none⟩) HZ11.out.1).trans HZ11.out.2.2⟩)
          clear hbx hb12 HX11 HP11 HQ11 HZ11
          go_wp2_with fail
          refine Q.ev_done HBn.out (Nat.le_refl _) ?_
          clear HBn
          have heq := eq_WL
          have heq2 := eq_WW
          repeat (go_big_quiet_step (fail))
          refine wpQuiet_nil ?_
          go_wp2_with fail
          refine (words_none (some ⟨nz, 0, none⟩) _ (fun W hb => ready_zero nz W ((hb.cell (p := ⟨nz, 3, none⟩) HZ12.out.1).trans HZ12.out.2.1))).mono ?_
          rintro e w13 ⟨rfl, hb13⟩
          have HBn := Lib.hid hb13
          have hbx := hb13
          have HX13 := Lib.hid (HX12.out.below hbx)
          have HP13 := Lib.hid (HP12.out.below HP12.out.lt hbx)
          have HQ13 := Lib.hid (HQ12.out.below HQ12.out.lt hbx)
          have HZ13 := Lib.hid (show nz < w13.heap.size ∧ w13.cell? ⟨nz, 3, none⟩ = some (.bool false) ∧ w13.cell? ⟨nz, 708, none⟩ = some (.int .i64 0) from ⟨Nat.lt_of_lt_of_le HZ12.out.1 hbx.size, (hbx.cell (p := ⟨nz, 3, none⟩) HZ12.out.1).trans HZ12.out.2.1, (hbx.cell (p := ⟨nz, 708, none⟩) HZ12.out.1).trans HZ12.out.2.2⟩)
          clear hbx hb13 HX12 HP12 HQ12 HZ12
          go_wp2_with fail
          refine Q.ev_done HBn.out (Nat.le_refl _) ?_
          clear HBn
          repeat (go_big_quiet_step (fail))
          refine wpQuiet_nil ?_
          refine NoPanic.normal ?_
          go_wp2_with fail
          go_ret
          exact ⟨rfl, by rw [Hn.out]; exact HX13.out.s.g⟩
end Go.Proofs.Ytblnclooobggnaa.A
