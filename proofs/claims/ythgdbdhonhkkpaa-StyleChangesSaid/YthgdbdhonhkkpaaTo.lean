/-
  style: the law of a style's numbers.
-/
import Derived.Test.YthgdbdhonhkkpaaTm
import Derived.Test.YthgdbdhonhkkpaaQd
namespace Go.Proofs.Ythgdbdhonhkkpaa.St
open Go.RowKit Go.Proofs.Ythgdbdhonhkkpaa.L Go.Proofs.Ythgdbdhonhkkpaa.V Go.Proofs.Ythgdbdhonhkkpaa.N Go.Proofs.YthgdbdhonhkkpaaW.PrintWords

abbrev tI : TypeId := 3
theorem gr_own {B : Nat} {W w1 : World} {v : Value} (hg : W.grownBy w1 v.ownBlock) (hv : ∀ k, v.ownBlock = some k → B ≤ k) (hB : B ≤ W.heap.size) : Q.Gr B none W w1 :=
  ⟨hg.os, hg.tape, hg.output, hg.size, fun k hk _ => hg.block k (by omega) (fun e => by have := hv k e.symm; omega)⟩
/-- a style, loaded from whatever world of a region -/
theorem OB.loadQ {b B : Nat} {s : Sty} {w : World} (h : OB b s w) (hb : b < B) : ∀ w', (∃ m : Q.GW w B none, w' = m.w) → (Instr.loadAt tS (.pointer (some ⟨b, 0, none⟩))).run Try.prog w' = .ok (.agg #[.int .u8 (s.1 : Int), .int .u32 (s.2.1 : Int), .int .u32 (s.2.2 : Int)]) w' := by
  rintro w' ⟨m, rfl⟩
  have h2 : OB b s m.w := (m.h.block b hb (by simp)).trans h
  have := h2.load
  simp only [Instr.loadAt, Instr.sureAddr, Sem.run_bind, Sem.run_pure, this, Result.andThen]
  rfl
theorem R_base {k : IntKind} {e B : Nat} {ok : Nat → Prop} {w : World} {v : Value} {l : List Int} (h : (Kd.int k).R e w B ok v l) : ∀ b, v.ownBlock = some b → B ≤ b := own_base (Kd.own_of_R h)
theorem okS_chg {s : Sty} (l : List Int) (h : okS s) : okS (chgS s l) := chgS_ok l h
theorem C_take1 (A : Option Addr) (n c : Nat) (h1 : 1 ≤ n) (hc : n ≤ c) :
    (∀ W : World, (Instr.slice 72 (.slice A n c) none (some (.int .i64 1)) none).run Try.prog W = .ok (.slice A 1 c) W) ∧
      ∀ (W : World) (l : List Int), (Kd.int .i64).C W A n l → (Kd.int .i64).C W A (l.take 1).length (l.take 1) ∧ (l.take 1).length = 1 := by
  obtain ⟨i0, hi0, hz0⟩ := info_of info_i
  refine ⟨fun W => ?_, fun W l hC => ?_⟩
  · have hel : Try.prog.elem 72 = 3 := by kernel_rfl
    have h3 : (1 : Int) ≤ (c : Int) := by omega
    have h4 : 1 ≤ c := by omega
    have e1 : ∀ a : Addr, Addr.add a 0 = a := fun a => by simp [Addr.add]
    have e2 : Option.map (fun x : Addr => x.add 0) A = A := by
      cases A with
      | none => rfl
      | some ad => rw [Option.map_some, e1]
    simp [Instr.slice, run_underlying Try.underlying72, Instr.sliceBounds, Instr.sliceBound, asIntOf, h3, sizeOf, typeInfo, hi0, e2, Result.andThen]
  · have hl := C_lenI hC
    have h := Kd.C_mid (xs := l) (lo := 0) (hi := 1) (c := c) (by rw [hl]; exact hC) (by omega) (by omega) (by omega)
    have hlen : (l.take 1).length = 1 := by rw [List.length_take]; omega
    rw [List.drop_zero] at h
    refine ⟨?_, hlen⟩
    rw [if_neg (by omega)] at h
    cases A with
    | none => exact h
    | some ad => simpa [Addr.add] using h
set_option maxRecDepth 100000 in
set_option maxHeartbeats 6400000 in
theorem tells_walk (s t : Sty) (l : List Int) (A : Option Addr) (c : Nat) (w : World) (hs : okS s) (ht : okS t) (hC : (Kd.int .i64).C w A l.length l) (hc : l.length ≤ c) :
    Calls Try.prog 11 #[.agg (stA s), .agg (stA t), .slice A l.length c] w fun e w' => e = .returned (.bool true) ∧ Below w.heap.size w w' := by
  have h2 := two_OB s t (W := (w.alloc (.cells (stA s) tS)).alloc (.cells (stA t) tS)) rfl
  obtain ⟨x1, x2, x3, x4⟩ := h2
  have hmx := (C_open hC).1
  rw [show (Value.agg (stA s)) = .agg #[.int .u8 (s.1 : Int), .int .u32 (s.2.1 : Int), .int .u32 (s.2.2 : Int)] from rfl, show (Value.agg (stA t)) = .agg #[.int .u8 (t.1 : Int), .int .u32 (t.2.1 : Int), .int .u32 (t.2.2 : Int)] from rfl]
  by_cases hg : 100 < l.length
  · have t1 : decide ((100 : Int) < (l.length : Int)) = true := decide_eq_true (by omega)
    have t1n : decide (100 < l.length) = true := decide_eq_true hg
    have HB := Lib.hid x3
    clear x1 x2 x3 x4 hC hc hmx hg hs ht
    go_enter Try.func11, Try.ntmps11
    go_wp2_with (go_at_call 30; refine (alive_any _).mono ?_; rintro e w1 ⟨rfl, hb1⟩; (have HB1 := Lib.hid (HB.out.trans (hb1.mono HB.out.size))); clear hb1)
    go_ret
    exact ⟨rfl, HB1.out⟩
  have t1 : decide ((100 : Int) < (l.length : Int)) = false := decide_eq_false (by omega)
  have t1n : decide (100 < l.length) = false := decide_eq_false hg
  have z1 : (l.length : Int) ≤ 100 := by omega
  have HX := Lib.hid x1
  have HY := Lib.hid x2
  have HB := Lib.hid x3
  have HSz := Lib.hid x4
  have HC := Lib.hid hC
  have HK := Lib.hid hc
  have HS := Lib.hid hs
  have HT := Lib.hid ht
  have HLn := Lib.hid (show l.length ≤ 100 from Nat.le_of_not_lt hg)
  clear x1 x2 x3 x4 hC hc hmx hg hs ht
  by_cases hr : rightB t = true
  · go_enter Try.func11, Try.ntmps11
    go_upto_region 3 with (fail)
    obtain ⟨W0, hW0⟩ : ∃ W', ((w.alloc (.cells #[.int .u8 (s.1 : Int), .int .u32 (s.2.1 : Int), .int .u32 (s.2.2 : Int)] tS)).alloc (.cells #[.int .u8 (t.1 : Int), .int .u32 (t.2.1 : Int), .int .u32 (t.2.2 : Int)] tS)) = W' := ⟨_, rfl⟩
    rw [show (.cells #[.int .u8 (s.1 : Int), .int .u32 (s.2.1 : Int), .int .u32 (s.2.2 : Int)] tS : Obj) = .cells (stA s) tS from rfl, show (.cells #[.int .u8 (t.1 : Int), .int .u32 (t.2.1 : Int), .int .u32 (t.2.2 : Int)] tS : Obj) = .cells (stA t) tS from rfl] at hW0
    refine wp_at fun W1 hW1 => ?_
    have hW1 : W1 = W0 := hW1.trans hW0
    subst hW1
    rw [hW0] at HX HY HB HSz
    clear hW0
    have HX := Lib.hid (show OB w.heap.size s W1.drew from HX.out)
    have HY := Lib.hid (show OB (w.heap.size + 1) t W1.drew from HY.out)
    have HBd := Lib.hid (show Below w.heap.size w W1.drew from HB.out.drew)
    have HSd := Lib.hid (show W1.drew.heap.size = w.heap.size + 2 from HSz.out)
    refine Q.wp_region_segs none [([0], some 1), ([2, 3, 4, 7], some 5), ([], some 6), ([8, 9], none)] (by kernel_rfl) (by kernel_rfl) (by kernel_rfl) (by kernel_rfl) ?_
    dsimp only [Q.wpSegs, Q.picks, Q.pick]
    obtain ⟨W2, hW2⟩ : ∃ W', W1.drew = W' := ⟨_, rfl⟩
    rw [hW2] at HX HY HBd HSd ⊢
    obtain ⟨B2, hB2⟩ : ∃ B, W1.heap.size = B := ⟨_, rfl⟩
    have hB2' : W2.heap.size = B2 := by rw [← hW2]; exact hB2
    rw [hB2]
    have HB2 := Lib.hid hB2'
    clear hW2 hB2 hB2' HB HSz
    refine quiet_loadG tS (.tmp 4) (.pointer (some ⟨w.heap.size + 1, 0, none⟩)) (.agg #[.int .u8 (t.1 : Int), .int .u32 (t.2.1 : Int), .int .u32 (t.2.2 : Int)]) rfl rfl rfl (HY.out.loadQ (by have := HSd.out; have := HB2.out; omega)) ?_
    go_simp
    repeat (go_big_quiet_step (fail))
    refine wpQuiet_nil ?_
    have hq := right_any t W2
    rw [hr] at hq
    have HQ := Lib.hid hq
    clear hq
    go_wp2_with (go_at_call 40; refine HQ.out.mono ?_; rintro e W3 ⟨rfl, hb3⟩; (have HX3 := Lib.hid (HX.out.below hb3)); (have HY3 := Lib.hid (HY.out.below hb3)); (have HB3 := Lib.hid (HBd.out.trans (hb3.mono HBd.out.size))); (have Hb3 := Lib.hid hb3); clear hb3 HQ)
    refine Q.ev_done Hb3.out (Nat.le_of_eq HB2.out.symm) ?_
    clear HX HY HBd HSd HB2 Hb3
    go_big_quiet_step (fail)
    refine quiet_loadG tS (.tmp 3) (.pointer (some ⟨w.heap.size, 0, none⟩)) (.agg #[.int .u8 (s.1 : Int), .int .u32 (s.2.1 : Int), .int .u32 (s.2.2 : Int)]) rfl rfl rfl (HX3.out.loadQ (by exact HX3.out.lt)) ?_
    go_simp
    refine quiet_loadG tS (.tmp 4) (.pointer (some ⟨w.heap.size + 1, 0, none⟩)) (.agg #[.int .u8 (t.1 : Int), .int .u32 (t.2.1 : Int), .int .u32 (t.2.2 : Int)]) rfl rfl rfl (HY3.out.loadQ (by exact HY3.out.lt)) ?_
    go_simp
    refine quiet_loadG tS (.tmp 4) (.pointer (some ⟨w.heap.size + 1, 0, none⟩)) (.agg #[.int .u8 (t.1 : Int), .int .u32 (t.2.1 : Int), .int .u32 (t.2.2 : Int)]) rfl rfl rfl (HY3.out.loadQ (by exact HY3.out.lt)) ?_
    go_simp
    repeat (go_big_quiet_step (fail))
    refine wpQuiet_nil ?_
    have hq := params_any t W3 HT.out.1
    have HQ := Lib.hid hq
    clear hq
    go_wp2_with (go_at_call 38; refine HQ.out.mono ?_; rintro e W4 ⟨v4, rfl, hv4, hb4⟩; obtain ⟨A4, q4, rfl, hq4, hC4⟩ := Kd.R_reads hv4; (have HC4 := Lib.hid hC4); (have Hq4 := Lib.hid hq4); (have HX4 := Lib.hid (HX3.out.below hb4)); (have HB4 := Lib.hid (HB3.out.trans (hb4.mono HB3.out.size))); (have Hb4 := Lib.hid hb4); clear hb4 HQ hv4 hC4 hq4)
    refine Q.ev_done Hb4.out (Nat.le_refl _) ?_
    clear HX3 HY3 HB3 Hb4
    refine wpQuiet_nil ?_
    have hq := change_any s (parR t) A4 q4 W4 HS.out HC4.out Hq4.out
    rw [chg_par s hr HT.out.1] at hq
    have HQ := Lib.hid hq
    clear hq hr
    go_wp2_with (go_at_call 37; refine HQ.out.mono ?_; rintro e W5 ⟨rfl, hb5⟩; (have HX5 := Lib.hid (HX4.out.below hb5)); (have HB5 := Lib.hid (HB4.out.trans (hb5.mono HB4.out.size))); (have Hb5 := Lib.hid hb5); clear hb5 HQ; (unfold stA))
    refine Q.ev_done Hb5.out (Nat.le_refl _) ?_
    clear HX4 HB4 Hb5 HC4 Hq4
    repeat (go_big_quiet_step (fail))
    refine wpQuiet_nil ?_
    refine NoPanic.normal ?_
    clear t1 t1n
    have HXc := HX5
    have HBc := HB5
    obtain ⟨Wc, hWc⟩ : ∃ W', W5 = W' := ⟨_, rfl⟩
    rw [hWc] at HXc HBc ⊢
    clear hWc HX5 HB5
    go_wp2_with fail
    go_loopg [7] (l.length + 1) (fun g v7 w' => ∃ i : Nat, v7 = .int .i64 (i : Int) ∧ Hid (i ≤ l.length ∧ l.length < g + i) ∧ Hid (∀ j, j < i → ¬ (l.getD j 0 = 38 ∨ l.getD j 0 = 48)) ∧ w' = Wc)
    case atStart => exact ⟨0, rfl, Lib.hid ⟨by omega, by omega⟩, Lib.hid (fun j hj => by omega), rfl⟩
    case round =>
      obtain ⟨i, rfl, HJ, HP, rfl⟩ := hrel
      cases gk with
      | zero => have := HJ.out; omega
      | succ k =>
        by_cases hi : i < l.length
        · have HJ' := Lib.hid (show i < l.length ∧ l.length < (k + 1) + i from ⟨hi, HJ.out.2⟩)
          obtain ⟨b, off, rfl, hb, hcell⟩ := (C_open HC.out).2.resolve_left (fun h => by rw [h] at hi; simp at hi)
          have ci := (HBc.out.cell (p := ⟨b, off + i, none⟩) hb).trans (hcell i hi)
          have HP2 := Lib.hid (show ∀ x, l.getD i 0 = x → ¬ (x = 38 ∨ x = 48) → ∀ j, j < i + 1 → ¬ (l.getD j 0 = 38 ∨ l.getD j 0 = 48) from fun x hx hn j hj => by
            by_cases e : j = i
            · rw [e, hx]; exact hn
            · exact HP.out j (by omega))
          obtain ⟨x, hx⟩ : ∃ x, l.getD i 0 = x := ⟨_, rfl⟩
          rw [hx] at ci
          have HE := Lib.hid hx
          have z4 : (i : Int) < (l.length : Int) := by omega
          have z5 : (0 : Int) ≤ (i : Int) := by omega
          clear hb hcell hx hi HJ HP
          by_cases h38 : x = 38
          · subst h38
            go_wp2_with (go_at_call 30; refine (alive_any _).mono ?_; rintro e w1 ⟨rfl, hb1⟩; (have HB1 := Lib.hid (HBc.out.trans (hb1.mono HBc.out.size))); clear hb1)
            go_ret
            exact ⟨rfl, HB1.out⟩
          have t38 : (x == 38) = false := by rw [beq_eq_false_iff_ne]; exact h38
          by_cases h48 : x = 48
          · subst h48
            clear t38 h38
            go_wp2_with (go_at_call 30; refine (alive_any _).mono ?_; rintro e w1 ⟨rfl, hb1⟩; (have HB1 := Lib.hid (HBc.out.trans (hb1.mono HBc.out.size))); clear hb1)
            go_ret
            exact ⟨rfl, HB1.out⟩
          have t48 : (x == 48) = false := by rw [beq_eq_false_iff_ne]; exact h48
          have HP3 := Lib.hid (HP2.out x HE.out (by omega))
          clear h38 h48
          go_wp2_with fail
          go_roundg k
          case measure => have := HJ'.out; omega
          case rel => exact ⟨i + 1, by go_num, Lib.hid (by have := HJ'.out; omega), HP3, rfl⟩
        · obtain rfl : i = l.length := by have := HJ.out; omega
          have HAll := Lib.hid (show ∀ x ∈ l, ¬ (x = 38 ∨ x = 48) from fun x hx => by
            obtain ⟨j, hj, rfl⟩ := List.getElem_of_mem hx
            have := HP.out j hj
            rwa [List.getD_eq_getElem?_getD, List.getElem?_eq_getElem hj] at this)
          have t2x : decide ((l.length : Int) < (l.length : Int)) = false := decide_eq_false (by omega)
          clear hi HJ HP
          go_upto_region 10 with (fail)
          have HXd := Lib.hid (show OB w.heap.size s wr.drew from HXc.out)
          have HBd := Lib.hid (show Below w.heap.size w wr.drew from HBc.out.drew)
          refine Q.wp_region_trB (w.heap.size + 1) none (.two [0, 2, 7] 1 (.two [] 3 (.ev [] 4 (.ev [] 5 (.ev [] 6 (.done [8])))) 4 (.ev [] 3 (.ev [] 5 (.ev [] 6 (.done [8]))))) 4 (.ev [] 1 (.ev [] 3 (.ev [] 5 (.ev [] 6 (.done [8])))))) (by kernel_rfl) (by kernel_rfl) (by kernel_rfl) (by kernel_rfl) ?_
          dsimp only [Q.wpTr, Q.picks, Q.pick]
          obtain ⟨Wd, hWd⟩ : ∃ W', wr.drew = W' := ⟨_, rfl⟩
          rw [hWd] at HXd HBd ⊢
          clear hWd
          have HZ := Lib.hid (show w.heap.size + 1 ≤ Wd.heap.size from HXd.out.lt)
          have HBw := HBd
          have HBd := Lib.hid (Below.refl (w.heap.size + 1) Wd)
          repeat (go_big_quiet_step (fail))
          refine quiet_loadG tS (.tmp 3) (.pointer (some ⟨w.heap.size, 0, none⟩)) (.agg #[.int .u8 (s.1 : Int), .int .u32 (s.2.1 : Int), .int .u32 (s.2.2 : Int)]) rfl rfl rfl (HXd.out.loadQ (Nat.lt_succ_self _)) ?_
          go_simp
          repeat (go_big_quiet_step (fail))
          refine wpQuiet_nil ?_
          refine ⟨?_, ?_⟩
          · go_wp2_with fail
            have hb' : Below Wd.heap.size Wd (Wd.alloc (.cells #[] tI)) := (Below.refl _ _).alloc (Nat.le_refl _) _
            refine Q.ev_keep hb' (Nat.le_trans HZ.out HBd.out.size) ?_
            have hr := R_empty (k := .i64) (e := tI) (Nat.le_trans HZ.out HBd.out.size) tI rfl
            obtain ⟨W11, hWn⟩ : ∃ W', Wd.alloc (.cells #[] tI) = W' := ⟨_, rfl⟩
            obtain ⟨g12, hgn⟩ : ∃ g, Wd.heap.size = g := ⟨_, rfl⟩
            rw [hWn] at hb' hr ⊢
            rw [hgn] at hr ⊢
            have HRW11 := Lib.hid hr
            have HBW11 := Lib.hid (HBd.out.trans (hb'.mono (Nat.le_trans HZ.out HBd.out.size)))
            have HXW11 := Lib.hid (HXd.out.below hb')
            clear hr hb' hWn hgn
            refine wpQuiet_nil ?_
            refine ⟨?_, ?_⟩
            · go_wp2_with (at_builtin; refine appn (w0 := Wd) .i64 (w.heap.size + 1) (.tmp 42) (.tmp 43) 72 tI 8 rfl rfl Try.underlying72 info_i (by decide) (.slice (some ⟨g12, 0, none⟩) 0 0) [] l A _ c rfl rfl HRW11.out (Kd.C_below HC.out (HBw.out.trans (HBW11.out.mono (Nat.le_succ _)))) HBW11.out (Nat.le_trans HZ.out HBW11.out.size) (by have := HLn.out; simp; omega) ?_; intro v14 W13 hr hb hg; (have HSW13 := Lib.hid hr); (have HBW13 := Lib.hid hb); (have hG := hg); clear hr hb hg)
              have hX : OB w.heap.size s W13 := blk_grown HXW11.out hG (own_ne (Kd.own_of_R HRW11.out) HXW11.out (by decide))
              have HXW13 := Lib.hid hX
              refine Q.ev_app (gr_own hG (fun k hk => R_base HRW11.out k hk) (Nat.le_trans HZ.out HBW11.out.size)) (Nat.le_refl _) (Q.NewRow.self _ _) ?_
              clear hG hX
              refine wpQuiet_nil ?_
              go_wp2_with fail
              have hb' : Below W13.heap.size W13 (W13.alloc (.cells #[.int .i64 0] tI)) := (Below.refl _ _).alloc (Nat.le_refl _) _
              refine Q.ev_keep hb' (Nat.le_trans HZ.out HBW13.out.size) ?_
              have hr := heap_alloc_new W13 (.cells #[.int .i64 0] tI)
              obtain ⟨W15, hWn⟩ : ∃ W', W13.alloc (.cells #[.int .i64 0] tI) = W' := ⟨_, rfl⟩
              have hsz : W13.heap.size < W15.heap.size := by rw [← hWn]; simp
              obtain ⟨g16, hgn⟩ : ∃ g, W13.heap.size = g := ⟨_, rfl⟩
              rw [hWn] at hb' hr ⊢
              rw [hgn] at hr hsz ⊢
              have HCW15 := Lib.hid hr
              have HLW15 := Lib.hid hsz
              have HBW15 := Lib.hid (HBW13.out.trans (hb'.mono (Nat.le_trans HZ.out HBW13.out.size)))
              have HXW15 := Lib.hid (HXW13.out.below hb')
              have HSW15 := Lib.hid (Kd.R_below HSW13.out hb')
              clear hr hb' hsz hWn hgn
              refine wpQuiet_nil ?_
              go_wp2_with (at_builtin; refine appn (w0 := Wd) .i64 (w.heap.size + 1) (.tmp 44) (.tmp 45) 72 tI 8 rfl rfl Try.underlying72 info_i (by decide) v14 ([] ++ l) [0] _ _ _ rfl rfl HSW15.out (C_blk (l := [0]) HCW15.out (by show 1 ≤ maxLen; decide)) HBW15.out (Nat.le_trans HZ.out HBW15.out.size) (by have := HLn.out; simp; omega) ?_; intro v18 W17 hr hb hg; (have HSW17 := Lib.hid hr); (have HBW17 := Lib.hid hb); (have hG := hg); clear hr hb hg)
              have hX : OB w.heap.size s W17 := blk_grown HXW15.out hG (own_ne (Kd.own_of_R HSW15.out) HXW15.out (by decide))
              have HXW17 := Lib.hid hX
              refine Q.ev_app (gr_own hG (fun k hk => R_base HSW15.out k hk) (Nat.le_trans HZ.out HBW15.out.size)) (Nat.le_refl _) (Q.NewRow.self _ _) ?_
              clear hG hX
              refine wpQuiet_nil ?_
              obtain ⟨A22, q23, hv, hq, hC⟩ := Kd.R_reads HSW17.out
              subst hv
              rw [List.nil_append] at hC hq ⊢
              have hq6 := change_any s (l ++ [0]) A22 q23 W17 HS.out hC hq
              rw [chg_end s HAll.out] at hq6
              obtain ⟨n5, hn5⟩ : ∃ n, (l ++ [0]).length = n := ⟨_, rfl⟩
              rw [hn5] at hq6 ⊢
              have HQ := Lib.hid hq6
              clear hC hq hq6 hn5
              go_wp2_with (go_at_call 37; refine HQ.out.mono ?_; rintro e W21 ⟨rfl, hb5⟩; (have HXW21 := Lib.hid (HXW17.out.below hb5)); (have HBW21 := Lib.hid (HBW17.out.trans (hb5.mono (Nat.le_trans HZ.out HBW17.out.size)))); (have Hb5 := Lib.hid hb5); clear hb5 HQ; (unfold stA); dsimp only)
              refine Q.ev_keep Hb5.out (Nat.le_trans HZ.out HBW17.out.size) ?_
              clear Hb5
              repeat (go_big_quiet_step (fail))
              refine wpQuiet_nil ?_
              refine NoPanic.normal ?_
              clear t2x
              have HBf := Lib.hid (HBw.out.trans (HBW21.out.mono (Nat.le_succ w.heap.size)))
              by_cases h2 : l.length < 2
              · have t3 : decide ((l.length : Int) < 2) = true := decide_eq_true (by omega)
                have t3n : decide (l.length < 2) = true := decide_eq_true h2
                clear h2
                have HBc := HBf
                go_wp2_with (go_at_call 30; refine (alive_any _).mono ?_; rintro e w1 ⟨rfl, hb1⟩; (have HB1 := Lib.hid (HBc.out.trans (hb1.mono HBc.out.size))); clear hb1)
                go_ret
                exact ⟨rfl, HB1.out⟩
              have t3 : decide ((l.length : Int) < 2) = false := decide_eq_false (by omega)
              have t3n : decide (l.length < 2) = false := decide_eq_false h2
              obtain ⟨hct, hCt⟩ := C_take1 A l.length c (by omega) HK.out
              obtain ⟨A9, c9, hcf, hc9, hCf⟩ := cutI A l.length c 1 1 rfl (by omega) HK.out
              have HCt := Lib.hid hCt
              have HCf := Lib.hid hCf
              have Hc9 := Lib.hid hc9
              have HL2 := Lib.hid (show 2 ≤ l.length from by omega)
              have z8 : (2 : Int) ≤ (l.length : Int) := by omega
              clear hCt hCf hc9 h2
              go_upto_region 14 with (fail)
              have HX1 := HXW21
              have HB1 := HBf
              have HXd := Lib.hid (show OB w.heap.size s W21.drew from HXW21.out)
              have HBd := Lib.hid (show Below w.heap.size w W21.drew from HBf.out.drew)
              refine Q.wp_region_segs none [([], some 0), ([1, 2, 3, 4, 6, 7, 9, 10], some 5), ([], some 8), ([], some 11), ([12, 13, 14], none)] (by kernel_rfl) (by kernel_rfl) (by kernel_rfl) (by kernel_rfl) ?_
              dsimp only [Q.wpSegs, Q.picks, Q.pick]
              refine wpQuiet_nil ?_
              go_wp2_with (go_at_call 30; refine (alive_any _).mono ?_; rintro e Y1 ⟨rfl, hb⟩; (have HX2 := Lib.hid (HXd.out.below hb)); (have HB2 := Lib.hid (HBd.out.trans (hb.mono HBd.out.size))); (have Hb := Lib.hid hb); clear hb)
              refine Q.ev_done Hb.out (Nat.le_refl _) ?_
              clear HXd HBd Hb
              go_big_quiet_step (fail)
              refine quiet_loadG tS (.tmp 3) (.pointer (some ⟨w.heap.size, 0, none⟩)) (.agg #[.int .u8 (s.1 : Int), .int .u32 (s.2.1 : Int), .int .u32 (s.2.2 : Int)]) rfl rfl rfl (HX2.out.loadQ (by exact HX2.out.lt)) ?_
              go_simp
              repeat (go_big_quiet_step (fail))
              refine quiet_loadG tS (.tmp 3) (.pointer (some ⟨w.heap.size, 0, none⟩)) (.agg #[.int .u8 (s.1 : Int), .int .u32 (s.2.1 : Int), .int .u32 (s.2.2 : Int)]) rfl rfl rfl (HX2.out.loadQ (by exact HX2.out.lt)) ?_
              go_simp
              repeat (go_big_quiet_step (fail))
              refine wpQuiet_nil ?_
              have HA1 := Lib.hid (HCt.out w l HC.out)
              have hq := change_any s (l.take 1) A c Y1 HS.out (Kd.C_below HA1.out.1 HB2.out) (by rw [HA1.out.2]; have := HK.out; have := HL2.out; omega)
              rw [HA1.out.2] at hq
              have HQ := Lib.hid hq
              clear hq
              go_wp2_with (go_at_call 37; refine HQ.out.mono ?_; rintro e Y2 ⟨rfl, hb⟩; (have HB3 := Lib.hid (HB2.out.trans (hb.mono HB2.out.size))); (have Hb := Lib.hid hb); clear hb HQ)
              refine Q.ev_done Hb.out (Nat.le_refl _) ?_
              clear Hb
              refine wpQuiet_nil ?_
              have hdl : (l.drop 1).length = l.length - 1 := List.length_drop
              have hq := change_any (chgS s (l.take 1)) (l.drop 1) A9 c9 Y2 (okS_chg _ HS.out) (by rw [hdl]; exact Kd.C_below (HCf.out w l HC.out) HB3.out) (by rw [hdl]; exact Hc9.out)
              rw [hdl, chg_parts s l HAll.out HL2.out] at hq
              have HQ := Lib.hid hq
              clear hq hdl
              go_wp2_with (go_at_call 37; refine HQ.out.mono ?_; rintro e Y3 ⟨rfl, hb⟩; (have HB4 := Lib.hid (HB3.out.trans (hb.mono HB3.out.size))); (have Hb := Lib.hid hb); clear hb HQ)
              refine Q.ev_done Hb.out (Nat.le_refl _) ?_
              clear Hb
              refine wpQuiet_nil ?_
              have hq := change_any s l A c Y3 HS.out (Kd.C_below HC.out HB4.out) HK.out
              have HQ := Lib.hid hq
              clear hq
              go_wp2_with (go_at_call 37; refine HQ.out.mono ?_; rintro e Y4 ⟨rfl, hb⟩; (have HB5 := Lib.hid (HB4.out.trans (hb.mono HB4.out.size))); (have Hb := Lib.hid hb); clear hb HQ)
              refine Q.ev_done Hb.out (Nat.le_refl _) ?_
              clear Hb
              obtain ⟨r, hr⟩ : ∃ r, chgS s l = r := ⟨_, rfl⟩
              rw [hr]
              unfold stA
              repeat (go_big_quiet_step (fail))
              refine wpQuiet_nil ?_
              refine NoPanic.normal ?_
              go_wp2_with fail
              go_ret
              exact ⟨rfl, HB5.out⟩
            · go_wp2_with fail
              have hb' : Below W11.heap.size W11 (W11.alloc (.cells #[.int .i64 0] tI)) := (Below.refl _ _).alloc (Nat.le_refl _) _
              refine Q.ev_keep hb' (Nat.le_trans HZ.out HBW11.out.size) ?_
              have hr := heap_alloc_new W11 (.cells #[.int .i64 0] tI)
              obtain ⟨W24, hWn⟩ : ∃ W', W11.alloc (.cells #[.int .i64 0] tI) = W' := ⟨_, rfl⟩
              have hsz : W11.heap.size < W24.heap.size := by rw [← hWn]; simp
              obtain ⟨g25, hgn⟩ : ∃ g, W11.heap.size = g := ⟨_, rfl⟩
              rw [hWn] at hb' hr ⊢
              rw [hgn] at hr hsz ⊢
              have HCW24 := Lib.hid hr
              have HLW24 := Lib.hid hsz
              have HBW24 := Lib.hid (HBW11.out.trans (hb'.mono (Nat.le_trans HZ.out HBW11.out.size)))
              have HXW24 := Lib.hid (HXW11.out.below hb')
              have HRW24 := Lib.hid (Kd.R_below HRW11.out hb')
              have HDW24 := Lib.hid (show ∀ k, Value.ownBlock (.slice (some ⟨g12, 0, none⟩) 0 0) = some k → k < g25 from fun k hk => by rw [← hgn]; exact Kd.R_lt HRW11.out k hk)
              clear hr hb' hsz hWn hgn
              refine wpQuiet_nil ?_
              go_wp2_with (at_builtin; refine appn (w0 := Wd) .i64 (w.heap.size + 1) (.tmp 42) (.tmp 43) 72 tI 8 rfl rfl Try.underlying72 info_i (by decide) (.slice (some ⟨g12, 0, none⟩) 0 0) [] l A _ c rfl rfl HRW24.out (Kd.C_below HC.out (HBw.out.trans (HBW24.out.mono (Nat.le_succ _)))) HBW24.out (Nat.le_trans HZ.out HBW24.out.size) (by have := HLn.out; simp; omega) ?_; intro v27 W26 hr hb hg; (have HSW26 := Lib.hid hr); (have HBW26 := Lib.hid hb); (have hG := hg); clear hr hb hg)
              have hX : OB w.heap.size s W26 := blk_grown HXW24.out hG (own_ne (Kd.own_of_R HRW24.out) HXW24.out (by decide))
              have HXW26 := Lib.hid hX
              have HCW26 := Lib.hid (blk_grown HCW24.out hG (fun e => by have := HDW24.out _ e.symm; omega))
              refine Q.ev_app (gr_own hG (fun k hk => R_base HRW24.out k hk) (Nat.le_trans HZ.out HBW24.out.size)) (Nat.le_refl _) (Q.NewRow.self _ _) ?_
              clear hG hX
              refine wpQuiet_nil ?_
              go_wp2_with (at_builtin; refine appn (w0 := Wd) .i64 (w.heap.size + 1) (.tmp 44) (.tmp 45) 72 tI 8 rfl rfl Try.underlying72 info_i (by decide) v27 ([] ++ l) [0] _ _ _ rfl rfl HSW26.out (C_blk (l := [0]) HCW26.out (by show 1 ≤ maxLen; decide)) HBW26.out (Nat.le_trans HZ.out HBW26.out.size) (by have := HLn.out; simp; omega) ?_; intro v29 W28 hr hb hg; (have HSW28 := Lib.hid hr); (have HBW28 := Lib.hid hb); (have hG := hg); clear hr hb hg)
              have hX : OB w.heap.size s W28 := blk_grown HXW26.out hG (own_ne (Kd.own_of_R HSW26.out) HXW26.out (by decide))
              have HXW28 := Lib.hid hX
              refine Q.ev_app (gr_own hG (fun k hk => R_base HSW26.out k hk) (Nat.le_trans HZ.out HBW26.out.size)) (Nat.le_refl _) (Q.NewRow.self _ _) ?_
              clear hG hX
              refine wpQuiet_nil ?_
              obtain ⟨A33, q34, hv, hq, hC⟩ := Kd.R_reads HSW28.out
              subst hv
              rw [List.nil_append] at hC hq ⊢
              have hq6 := change_any s (l ++ [0]) A33 q34 W28 HS.out hC hq
              rw [chg_end s HAll.out] at hq6
              obtain ⟨n5, hn5⟩ : ∃ n, (l ++ [0]).length = n := ⟨_, rfl⟩
              rw [hn5] at hq6 ⊢
              have HQ := Lib.hid hq6
              clear hC hq hq6 hn5
              go_wp2_with (go_at_call 37; refine HQ.out.mono ?_; rintro e W32 ⟨rfl, hb5⟩; (have HXW32 := Lib.hid (HXW28.out.below hb5)); (have HBW32 := Lib.hid (HBW28.out.trans (hb5.mono (Nat.le_trans HZ.out HBW28.out.size)))); (have Hb5 := Lib.hid hb5); clear hb5 HQ; (unfold stA); dsimp only)
              refine Q.ev_keep Hb5.out (Nat.le_trans HZ.out HBW28.out.size) ?_
              clear Hb5
              repeat (go_big_quiet_step (fail))
              refine wpQuiet_nil ?_
              refine NoPanic.normal ?_
              clear t2x
              have HBf := Lib.hid (HBw.out.trans (HBW32.out.mono (Nat.le_succ w.heap.size)))
              by_cases h2 : l.length < 2
              · have t3 : decide ((l.length : Int) < 2) = true := decide_eq_true (by omega)
                have t3n : decide (l.length < 2) = true := decide_eq_true h2
                clear h2
                have HBc := HBf
                go_wp2_with (go_at_call 30; refine (alive_any _).mono ?_; rintro e w1 ⟨rfl, hb1⟩; (have HB1 := Lib.hid (HBc.out.trans (hb1.mono HBc.out.size))); clear hb1)
                go_ret
                exact ⟨rfl, HB1.out⟩
              have t3 : decide ((l.length : Int) < 2) = false := decide_eq_false (by omega)
              have t3n : decide (l.length < 2) = false := decide_eq_false h2
              obtain ⟨hct, hCt⟩ := C_take1 A l.length c (by omega) HK.out
              obtain ⟨A9, c9, hcf, hc9, hCf⟩ := cutI A l.length c 1 1 rfl (by omega) HK.out
              have HCt := Lib.hid hCt
              have HCf := Lib.hid hCf
              have Hc9 := Lib.hid hc9
              have HL2 := Lib.hid (show 2 ≤ l.length from by omega)
              have z8 : (2 : Int) ≤ (l.length : Int) := by omega
              clear hCt hCf hc9 h2
              go_upto_region 14 with (fail)
              have HX1 := HXW32
              have HB1 := HBf
              have HXd := Lib.hid (show OB w.heap.size s W32.drew from HXW32.out)
              have HBd := Lib.hid (show Below w.heap.size w W32.drew from HBf.out.drew)
              refine Q.wp_region_segs none [([], some 0), ([1, 2, 3, 4, 6, 7, 9, 10], some 5), ([], some 8), ([], some 11), ([12, 13, 14], none)] (by kernel_rfl) (by kernel_rfl) (by kernel_rfl) (by kernel_rfl) ?_
              dsimp only [Q.wpSegs, Q.picks, Q.pick]
              refine wpQuiet_nil ?_
              go_wp2_with (go_at_call 30; refine (alive_any _).mono ?_; rintro e Y1 ⟨rfl, hb⟩; (have HX2 := Lib.hid (HXd.out.below hb)); (have HB2 := Lib.hid (HBd.out.trans (hb.mono HBd.out.size))); (have Hb := Lib.hid hb); clear hb)
              refine Q.ev_done Hb.out (Nat.le_refl _) ?_
              clear HXd HBd Hb
              go_big_quiet_step (fail)
              refine quiet_loadG tS (.tmp 3) (.pointer (some ⟨w.heap.size, 0, none⟩)) (.agg #[.int .u8 (s.1 : Int), .int .u32 (s.2.1 : Int), .int .u32 (s.2.2 : Int)]) rfl rfl rfl (HX2.out.loadQ (by exact HX2.out.lt)) ?_
              go_simp
              repeat (go_big_quiet_step (fail))
              refine quiet_loadG tS (.tmp 3) (.pointer (some ⟨w.heap.size, 0, none⟩)) (.agg #[.int .u8 (s.1 : Int), .int .u32 (s.2.1 : Int), .int .u32 (s.2.2 : Int)]) rfl rfl rfl (HX2.out.loadQ (by exact HX2.out.lt)) ?_
              go_simp
              repeat (go_big_quiet_step (fail))
              refine wpQuiet_nil ?_
              have HA1 := Lib.hid (HCt.out w l HC.out)
              have hq := change_any s (l.take 1) A c Y1 HS.out (Kd.C_below HA1.out.1 HB2.out) (by rw [HA1.out.2]; have := HK.out; have := HL2.out; omega)
              rw [HA1.out.2] at hq
              have HQ := Lib.hid hq
              clear hq
              go_wp2_with (go_at_call 37; refine HQ.out.mono ?_; rintro e Y2 ⟨rfl, hb⟩; (have HB3 := Lib.hid (HB2.out.trans (hb.mono HB2.out.size))); (have Hb := Lib.hid hb); clear hb HQ)
              refine Q.ev_done Hb.out (Nat.le_refl _) ?_
              clear Hb
              refine wpQuiet_nil ?_
              have hdl : (l.drop 1).length = l.length - 1 := List.length_drop
              have hq := change_any (chgS s (l.take 1)) (l.drop 1) A9 c9 Y2 (okS_chg _ HS.out) (by rw [hdl]; exact Kd.C_below (HCf.out w l HC.out) HB3.out) (by rw [hdl]; exact Hc9.out)
              rw [hdl, chg_parts s l HAll.out HL2.out] at hq
              have HQ := Lib.hid hq
              clear hq hdl
              go_wp2_with (go_at_call 37; refine HQ.out.mono ?_; rintro e Y3 ⟨rfl, hb⟩; (have HB4 := Lib.hid (HB3.out.trans (hb.mono HB3.out.size))); (have Hb := Lib.hid hb); clear hb HQ)
              refine Q.ev_done Hb.out (Nat.le_refl _) ?_
              clear Hb
              refine wpQuiet_nil ?_
              have hq := change_any s l A c Y3 HS.out (Kd.C_below HC.out HB4.out) HK.out
              have HQ := Lib.hid hq
              clear hq
              go_wp2_with (go_at_call 37; refine HQ.out.mono ?_; rintro e Y4 ⟨rfl, hb⟩; (have HB5 := Lib.hid (HB4.out.trans (hb.mono HB4.out.size))); (have Hb := Lib.hid hb); clear hb HQ)
              refine Q.ev_done Hb.out (Nat.le_refl _) ?_
              clear Hb
              obtain ⟨r, hr⟩ : ∃ r, chgS s l = r := ⟨_, rfl⟩
              rw [hr]
              unfold stA
              repeat (go_big_quiet_step (fail))
              refine wpQuiet_nil ?_
              refine NoPanic.normal ?_
              go_wp2_with fail
              go_ret
              exact ⟨rfl, HB5.out⟩
          · go_wp2_with fail
            have hb' : Below Wd.heap.size Wd (Wd.alloc (.cells #[.int .i64 0] tI)) := (Below.refl _ _).alloc (Nat.le_refl _) _
            refine Q.ev_keep hb' (Nat.le_trans HZ.out HBd.out.size) ?_
            have hr := heap_alloc_new Wd (.cells #[.int .i64 0] tI)
            obtain ⟨W35, hWn⟩ : ∃ W', Wd.alloc (.cells #[.int .i64 0] tI) = W' := ⟨_, rfl⟩
            have hsz : Wd.heap.size < W35.heap.size := by rw [← hWn]; simp
            obtain ⟨g36, hgn⟩ : ∃ g, Wd.heap.size = g := ⟨_, rfl⟩
            rw [hWn] at hb' hr ⊢
            rw [hgn] at hr hsz ⊢
            have HCW35 := Lib.hid hr
            have HLW35 := Lib.hid hsz
            have HBW35 := Lib.hid (HBd.out.trans (hb'.mono (Nat.le_trans HZ.out HBd.out.size)))
            have HXW35 := Lib.hid (HXd.out.below hb')
            clear hr hb' hsz hWn hgn
            refine wpQuiet_nil ?_
            go_wp2_with fail
            have hb' : Below W35.heap.size W35 (W35.alloc (.cells #[] tI)) := (Below.refl _ _).alloc (Nat.le_refl _) _
            refine Q.ev_keep hb' (Nat.le_trans HZ.out HBW35.out.size) ?_
            have hr := R_empty (k := .i64) (e := tI) (Nat.le_trans HZ.out HBW35.out.size) tI rfl
            obtain ⟨W37, hWn⟩ : ∃ W', W35.alloc (.cells #[] tI) = W' := ⟨_, rfl⟩
            obtain ⟨g38, hgn⟩ : ∃ g, W35.heap.size = g := ⟨_, rfl⟩
            rw [hWn] at hb' hr ⊢
            rw [hgn] at hr ⊢
            have HRW37 := Lib.hid hr
            have HBW37 := Lib.hid (HBW35.out.trans (hb'.mono (Nat.le_trans HZ.out HBW35.out.size)))
            have HXW37 := Lib.hid (HXW35.out.below hb')
            have HCW37 := Lib.hid (blk_below HCW35.out hb')
            have HLW37 := Lib.hid (show g36 < g38 from by rw [← hgn]; exact HLW35.out)
            clear hr hb' hWn hgn
            refine wpQuiet_nil ?_
            go_wp2_with (at_builtin; refine appn (w0 := Wd) .i64 (w.heap.size + 1) (.tmp 42) (.tmp 43) 72 tI 8 rfl rfl Try.underlying72 info_i (by decide) (.slice (some ⟨g38, 0, none⟩) 0 0) [] l A _ c rfl rfl HRW37.out (Kd.C_below HC.out (HBw.out.trans (HBW37.out.mono (Nat.le_succ _)))) HBW37.out (Nat.le_trans HZ.out HBW37.out.size) (by have := HLn.out; simp; omega) ?_; intro v40 W39 hr hb hg; (have HSW39 := Lib.hid hr); (have HBW39 := Lib.hid hb); (have hG := hg); clear hr hb hg)
            have hX : OB w.heap.size s W39 := blk_grown HXW37.out hG (own_ne (Kd.own_of_R HRW37.out) HXW37.out (by decide))
            have HXW39 := Lib.hid hX
            have HCW39 := Lib.hid (blk_grown HCW37.out hG (fun e => by injection e with e; have e2 : g36 = g38 := e; have := HLW37.out; omega))
            refine Q.ev_app (gr_own hG (fun k hk => R_base HRW37.out k hk) (Nat.le_trans HZ.out HBW37.out.size)) (Nat.le_refl _) (Q.NewRow.self _ _) ?_
            clear hG hX
            refine wpQuiet_nil ?_
            go_wp2_with (at_builtin; refine appn (w0 := Wd) .i64 (w.heap.size + 1) (.tmp 44) (.tmp 45) 72 tI 8 rfl rfl Try.underlying72 info_i (by decide) v40 ([] ++ l) [0] _ _ _ rfl rfl HSW39.out (C_blk (l := [0]) HCW39.out (by show 1 ≤ maxLen; decide)) HBW39.out (Nat.le_trans HZ.out HBW39.out.size) (by have := HLn.out; simp; omega) ?_; intro v42 W41 hr hb hg; (have HSW41 := Lib.hid hr); (have HBW41 := Lib.hid hb); (have hG := hg); clear hr hb hg)
            have hX : OB w.heap.size s W41 := blk_grown HXW39.out hG (own_ne (Kd.own_of_R HSW39.out) HXW39.out (by decide))
            have HXW41 := Lib.hid hX
            refine Q.ev_app (gr_own hG (fun k hk => R_base HSW39.out k hk) (Nat.le_trans HZ.out HBW39.out.size)) (Nat.le_refl _) (Q.NewRow.self _ _) ?_
            clear hG hX
            refine wpQuiet_nil ?_
            obtain ⟨A46, q47, hv, hq, hC⟩ := Kd.R_reads HSW41.out
            subst hv
            rw [List.nil_append] at hC hq ⊢
            have hq6 := change_any s (l ++ [0]) A46 q47 W41 HS.out hC hq
            rw [chg_end s HAll.out] at hq6
            obtain ⟨n5, hn5⟩ : ∃ n, (l ++ [0]).length = n := ⟨_, rfl⟩
            rw [hn5] at hq6 ⊢
            have HQ := Lib.hid hq6
            clear hC hq hq6 hn5
            go_wp2_with (go_at_call 37; refine HQ.out.mono ?_; rintro e W45 ⟨rfl, hb5⟩; (have HXW45 := Lib.hid (HXW41.out.below hb5)); (have HBW45 := Lib.hid (HBW41.out.trans (hb5.mono (Nat.le_trans HZ.out HBW41.out.size)))); (have Hb5 := Lib.hid hb5); clear hb5 HQ; (unfold stA); dsimp only)
            refine Q.ev_keep Hb5.out (Nat.le_trans HZ.out HBW41.out.size) ?_
            clear Hb5
            repeat (go_big_quiet_step (fail))
            refine wpQuiet_nil ?_
            refine NoPanic.normal ?_
            clear t2x
            have HBf := Lib.hid (HBw.out.trans (HBW45.out.mono (Nat.le_succ w.heap.size)))
            by_cases h2 : l.length < 2
            · have t3 : decide ((l.length : Int) < 2) = true := decide_eq_true (by omega)
              have t3n : decide (l.length < 2) = true := decide_eq_true h2
              clear h2
              have HBc := HBf
              go_wp2_with (go_at_call 30; refine (alive_any _).mono ?_; rintro e w1 ⟨rfl, hb1⟩; (have HB1 := Lib.hid (HBc.out.trans (hb1.mono HBc.out.size))); clear hb1)
              go_ret
              exact ⟨rfl, HB1.out⟩
            have t3 : decide ((l.length : Int) < 2) = false := decide_eq_false (by omega)
            have t3n : decide (l.length < 2) = false := decide_eq_false h2
            obtain ⟨hct, hCt⟩ := C_take1 A l.length c (by omega) HK.out
            obtain ⟨A9, c9, hcf, hc9, hCf⟩ := cutI A l.length c 1 1 rfl (by omega) HK.out
            have HCt := Lib.hid hCt
            have HCf := Lib.hid hCf
            have Hc9 := Lib.hid hc9
            have HL2 := Lib.hid (show 2 ≤ l.length from by omega)
            have z8 : (2 : Int) ≤ (l.length : Int) := by omega
            clear hCt hCf hc9 h2
            go_upto_region 14 with (fail)
            have HX1 := HXW45
            have HB1 := HBf
            have HXd := Lib.hid (show OB w.heap.size s W45.drew from HXW45.out)
            have HBd := Lib.hid (show Below w.heap.size w W45.drew from HBf.out.drew)
            refine Q.wp_region_segs none [([], some 0), ([1, 2, 3, 4, 6, 7, 9, 10], some 5), ([], some 8), ([], some 11), ([12, 13, 14], none)] (by kernel_rfl) (by kernel_rfl) (by kernel_rfl) (by kernel_rfl) ?_
            dsimp only [Q.wpSegs, Q.picks, Q.pick]
            refine wpQuiet_nil ?_
            go_wp2_with (go_at_call 30; refine (alive_any _).mono ?_; rintro e Y1 ⟨rfl, hb⟩; (have HX2 := Lib.hid (HXd.out.below hb)); (have HB2 := Lib.hid (HBd.out.trans (hb.mono HBd.out.size))); (have Hb := Lib.hid hb); clear hb)
            refine Q.ev_done Hb.out (Nat.le_refl _) ?_
            clear HXd HBd Hb
            go_big_quiet_step (fail)
            refine quiet_loadG tS (.tmp 3) (.pointer (some ⟨w.heap.size, 0, none⟩)) (.agg #[.int .u8 (s.1 : Int), .int .u32 (s.2.1 : Int), .int .u32 (s.2.2 : Int)]) rfl rfl rfl (HX2.out.loadQ (by exact HX2.out.lt)) ?_
            go_simp
            repeat (go_big_quiet_step (fail))
            refine quiet_loadG tS (.tmp 3) (.pointer (some ⟨w.heap.size, 0, none⟩)) (.agg #[.int .u8 (s.1 : Int), .int .u32 (s.2.1 : Int), .int .u32 (s.2.2 : Int)]) rfl rfl rfl (HX2.out.loadQ (by exact HX2.out.lt)) ?_
            go_simp
            repeat (go_big_quiet_step (fail))
            refine wpQuiet_nil ?_
            have HA1 := Lib.hid (HCt.out w l HC.out)
            have hq := change_any s (l.take 1) A c Y1 HS.out (Kd.C_below HA1.out.1 HB2.out) (by rw [HA1.out.2]; have := HK.out; have := HL2.out; omega)
            rw [HA1.out.2] at hq
            have HQ := Lib.hid hq
            clear hq
            go_wp2_with (go_at_call 37; refine HQ.out.mono ?_; rintro e Y2 ⟨rfl, hb⟩; (have HB3 := Lib.hid (HB2.out.trans (hb.mono HB2.out.size))); (have Hb := Lib.hid hb); clear hb HQ)
            refine Q.ev_done Hb.out (Nat.le_refl _) ?_
            clear Hb
            refine wpQuiet_nil ?_
            have hdl : (l.drop 1).length = l.length - 1 := List.length_drop
            have hq := change_any (chgS s (l.take 1)) (l.drop 1) A9 c9 Y2 (okS_chg _ HS.out) (by rw [hdl]; exact Kd.C_below (HCf.out w l HC.out) HB3.out) (by rw [hdl]; exact Hc9.out)
            rw [hdl, chg_parts s l HAll.out HL2.out] at hq
            have HQ := Lib.hid hq
            clear hq hdl
            go_wp2_with (go_at_call 37; refine HQ.out.mono ?_; rintro e Y3 ⟨rfl, hb⟩; (have HB4 := Lib.hid (HB3.out.trans (hb.mono HB3.out.size))); (have Hb := Lib.hid hb); clear hb HQ)
            refine Q.ev_done Hb.out (Nat.le_refl _) ?_
            clear Hb
            refine wpQuiet_nil ?_
            have hq := change_any s l A c Y3 HS.out (Kd.C_below HC.out HB4.out) HK.out
            have HQ := Lib.hid hq
            clear hq
            go_wp2_with (go_at_call 37; refine HQ.out.mono ?_; rintro e Y4 ⟨rfl, hb⟩; (have HB5 := Lib.hid (HB4.out.trans (hb.mono HB4.out.size))); (have Hb := Lib.hid hb); clear hb HQ)
            refine Q.ev_done Hb.out (Nat.le_refl _) ?_
            clear Hb
            obtain ⟨r, hr⟩ : ∃ r, chgS s l = r := ⟨_, rfl⟩
            rw [hr]
            unfold stA
            repeat (go_big_quiet_step (fail))
            refine wpQuiet_nil ?_
            refine NoPanic.normal ?_
            go_wp2_with fail
            go_ret
            exact ⟨rfl, HB5.out⟩
  · go_enter Try.func11, Try.ntmps11
    go_upto_region 3 with (fail)
    obtain ⟨W0, hW0⟩ : ∃ W', ((w.alloc (.cells #[.int .u8 (s.1 : Int), .int .u32 (s.2.1 : Int), .int .u32 (s.2.2 : Int)] tS)).alloc (.cells #[.int .u8 (t.1 : Int), .int .u32 (t.2.1 : Int), .int .u32 (t.2.2 : Int)] tS)) = W' := ⟨_, rfl⟩
    rw [show (.cells #[.int .u8 (s.1 : Int), .int .u32 (s.2.1 : Int), .int .u32 (s.2.2 : Int)] tS : Obj) = .cells (stA s) tS from rfl, show (.cells #[.int .u8 (t.1 : Int), .int .u32 (t.2.1 : Int), .int .u32 (t.2.2 : Int)] tS : Obj) = .cells (stA t) tS from rfl] at hW0
    refine wp_at fun W1 hW1 => ?_
    have hW1 : W1 = W0 := hW1.trans hW0
    subst hW1
    rw [hW0] at HX HY HB HSz
    clear hW0
    have HX := Lib.hid (show OB w.heap.size s W1.drew from HX.out)
    have HY := Lib.hid (show OB (w.heap.size + 1) t W1.drew from HY.out)
    have HBd := Lib.hid (show Below w.heap.size w W1.drew from HB.out.drew)
    have HSd := Lib.hid (show W1.drew.heap.size = w.heap.size + 2 from HSz.out)
    refine Q.wp_region_segs none [([0], some 1), ([2, 3, 4, 7], some 5), ([], some 6), ([8, 9], none)] (by kernel_rfl) (by kernel_rfl) (by kernel_rfl) (by kernel_rfl) ?_
    dsimp only [Q.wpSegs, Q.picks, Q.pick]
    obtain ⟨W2, hW2⟩ : ∃ W', W1.drew = W' := ⟨_, rfl⟩
    rw [hW2] at HX HY HBd HSd ⊢
    obtain ⟨B2, hB2⟩ : ∃ B, W1.heap.size = B := ⟨_, rfl⟩
    have hB2' : W2.heap.size = B2 := by rw [← hW2]; exact hB2
    rw [hB2]
    have HB2 := Lib.hid hB2'
    clear hW2 hB2 hB2' HB HSz
    refine quiet_loadG tS (.tmp 4) (.pointer (some ⟨w.heap.size + 1, 0, none⟩)) (.agg #[.int .u8 (t.1 : Int), .int .u32 (t.2.1 : Int), .int .u32 (t.2.2 : Int)]) rfl rfl rfl (HY.out.loadQ (by have := HSd.out; have := HB2.out; omega)) ?_
    go_simp
    repeat (go_big_quiet_step (fail))
    refine wpQuiet_nil ?_
    have hq := right_any t W2
    rw [eq_false_of_ne_true hr] at hq
    have HQ := Lib.hid hq
    clear hq
    go_wp2_with (go_at_call 40; refine HQ.out.mono ?_; rintro e W3 ⟨rfl, hb3⟩; (have HX3 := Lib.hid (HX.out.below hb3)); (have HB3 := Lib.hid (HBd.out.trans (hb3.mono HBd.out.size))); (have Hb3 := Lib.hid hb3); clear hb3 HQ)
    refine Q.ev_done Hb3.out (Nat.le_of_eq HB2.out.symm) ?_
    clear HX HY HBd HSd HB2 Hb3 hr
    repeat (go_big_quiet_step (fail))
    refine wpQuiet_nil ?_
    go_wp2_with fail
    refine Q.ev_done (Below.refl _ _) (Nat.le_refl _) ?_
    refine wpQuiet_nil ?_
    go_wp2_with fail
    refine Q.ev_done (Below.refl _ _) (Nat.le_refl _) ?_
    repeat (go_big_quiet_step (fail))
    refine wpQuiet_nil ?_
    refine NoPanic.normal ?_
    clear t1 t1n
    have HXc := HX3
    have HBc := HB3
    obtain ⟨Wc, hWc⟩ : ∃ W', W3 = W' := ⟨_, rfl⟩
    rw [hWc] at HXc HBc ⊢
    clear hWc HX3 HB3
    go_wp2_with fail
    go_loopg [7] (l.length + 1) (fun g v7 w' => ∃ i : Nat, v7 = .int .i64 (i : Int) ∧ Hid (i ≤ l.length ∧ l.length < g + i) ∧ Hid (∀ j, j < i → ¬ (l.getD j 0 = 38 ∨ l.getD j 0 = 48)) ∧ w' = Wc)
    case atStart => exact ⟨0, rfl, Lib.hid ⟨by omega, by omega⟩, Lib.hid (fun j hj => by omega), rfl⟩
    case round =>
      obtain ⟨i, rfl, HJ, HP, rfl⟩ := hrel
      cases gk with
      | zero => have := HJ.out; omega
      | succ k =>
        by_cases hi : i < l.length
        · have HJ' := Lib.hid (show i < l.length ∧ l.length < (k + 1) + i from ⟨hi, HJ.out.2⟩)
          obtain ⟨b, off, rfl, hb, hcell⟩ := (C_open HC.out).2.resolve_left (fun h => by rw [h] at hi; simp at hi)
          have ci := (HBc.out.cell (p := ⟨b, off + i, none⟩) hb).trans (hcell i hi)
          have HP2 := Lib.hid (show ∀ x, l.getD i 0 = x → ¬ (x = 38 ∨ x = 48) → ∀ j, j < i + 1 → ¬ (l.getD j 0 = 38 ∨ l.getD j 0 = 48) from fun x hx hn j hj => by
            by_cases e : j = i
            · rw [e, hx]; exact hn
            · exact HP.out j (by omega))
          obtain ⟨x, hx⟩ : ∃ x, l.getD i 0 = x := ⟨_, rfl⟩
          rw [hx] at ci
          have HE := Lib.hid hx
          have z4 : (i : Int) < (l.length : Int) := by omega
          have z5 : (0 : Int) ≤ (i : Int) := by omega
          clear hb hcell hx hi HJ HP
          by_cases h38 : x = 38
          · subst h38
            go_wp2_with (go_at_call 30; refine (alive_any _).mono ?_; rintro e w1 ⟨rfl, hb1⟩; (have HB1 := Lib.hid (HBc.out.trans (hb1.mono HBc.out.size))); clear hb1)
            go_ret
            exact ⟨rfl, HB1.out⟩
          have t38 : (x == 38) = false := by rw [beq_eq_false_iff_ne]; exact h38
          by_cases h48 : x = 48
          · subst h48
            clear t38 h38
            go_wp2_with (go_at_call 30; refine (alive_any _).mono ?_; rintro e w1 ⟨rfl, hb1⟩; (have HB1 := Lib.hid (HBc.out.trans (hb1.mono HBc.out.size))); clear hb1)
            go_ret
            exact ⟨rfl, HB1.out⟩
          have t48 : (x == 48) = false := by rw [beq_eq_false_iff_ne]; exact h48
          have HP3 := Lib.hid (HP2.out x HE.out (by omega))
          clear h38 h48
          go_wp2_with fail
          go_roundg k
          case measure => have := HJ'.out; omega
          case rel => exact ⟨i + 1, by go_num, Lib.hid (by have := HJ'.out; omega), HP3, rfl⟩
        · obtain rfl : i = l.length := by have := HJ.out; omega
          have HAll := Lib.hid (show ∀ x ∈ l, ¬ (x = 38 ∨ x = 48) from fun x hx => by
            obtain ⟨j, hj, rfl⟩ := List.getElem_of_mem hx
            have := HP.out j hj
            rwa [List.getD_eq_getElem?_getD, List.getElem?_eq_getElem hj] at this)
          have t2x : decide ((l.length : Int) < (l.length : Int)) = false := decide_eq_false (by omega)
          clear hi HJ HP
          go_upto_region 10 with (fail)
          have HXd := Lib.hid (show OB w.heap.size s wr.drew from HXc.out)
          have HBd := Lib.hid (show Below w.heap.size w wr.drew from HBc.out.drew)
          refine Q.wp_region_trB (w.heap.size + 1) none (.two [0, 2, 7] 1 (.two [] 3 (.ev [] 4 (.ev [] 5 (.ev [] 6 (.done [8])))) 4 (.ev [] 3 (.ev [] 5 (.ev [] 6 (.done [8]))))) 4 (.ev [] 1 (.ev [] 3 (.ev [] 5 (.ev [] 6 (.done [8])))))) (by kernel_rfl) (by kernel_rfl) (by kernel_rfl) (by kernel_rfl) ?_
          dsimp only [Q.wpTr, Q.picks, Q.pick]
          obtain ⟨Wd, hWd⟩ : ∃ W', wr.drew = W' := ⟨_, rfl⟩
          rw [hWd] at HXd HBd ⊢
          clear hWd
          have HZ := Lib.hid (show w.heap.size + 1 ≤ Wd.heap.size from HXd.out.lt)
          have HBw := HBd
          have HBd := Lib.hid (Below.refl (w.heap.size + 1) Wd)
          repeat (go_big_quiet_step (fail))
          refine quiet_loadG tS (.tmp 3) (.pointer (some ⟨w.heap.size, 0, none⟩)) (.agg #[.int .u8 (s.1 : Int), .int .u32 (s.2.1 : Int), .int .u32 (s.2.2 : Int)]) rfl rfl rfl (HXd.out.loadQ (Nat.lt_succ_self _)) ?_
          go_simp
          repeat (go_big_quiet_step (fail))
          refine wpQuiet_nil ?_
          refine ⟨?_, ?_⟩
          · go_wp2_with fail
            have hb' : Below Wd.heap.size Wd (Wd.alloc (.cells #[] tI)) := (Below.refl _ _).alloc (Nat.le_refl _) _
            refine Q.ev_keep hb' (Nat.le_trans HZ.out HBd.out.size) ?_
            have hr := R_empty (k := .i64) (e := tI) (Nat.le_trans HZ.out HBd.out.size) tI rfl
            obtain ⟨W11, hWn⟩ : ∃ W', Wd.alloc (.cells #[] tI) = W' := ⟨_, rfl⟩
            obtain ⟨g12, hgn⟩ : ∃ g, Wd.heap.size = g := ⟨_, rfl⟩
            rw [hWn] at hb' hr ⊢
            rw [hgn] at hr ⊢
            have HRW11 := Lib.hid hr
            have HBW11 := Lib.hid (HBd.out.trans (hb'.mono (Nat.le_trans HZ.out HBd.out.size)))
            have HXW11 := Lib.hid (HXd.out.below hb')
            clear hr hb' hWn hgn
            refine wpQuiet_nil ?_
            refine ⟨?_, ?_⟩
            · go_wp2_with (at_builtin; refine appn (w0 := Wd) .i64 (w.heap.size + 1) (.tmp 42) (.tmp 43) 72 tI 8 rfl rfl Try.underlying72 info_i (by decide) (.slice (some ⟨g12, 0, none⟩) 0 0) [] l A _ c rfl rfl HRW11.out (Kd.C_below HC.out (HBw.out.trans (HBW11.out.mono (Nat.le_succ _)))) HBW11.out (Nat.le_trans HZ.out HBW11.out.size) (by have := HLn.out; simp; omega) ?_; intro v14 W13 hr hb hg; (have HSW13 := Lib.hid hr); (have HBW13 := Lib.hid hb); (have hG := hg); clear hr hb hg)
              have hX : OB w.heap.size s W13 := blk_grown HXW11.out hG (own_ne (Kd.own_of_R HRW11.out) HXW11.out (by decide))
              have HXW13 := Lib.hid hX
              refine Q.ev_app (gr_own hG (fun k hk => R_base HRW11.out k hk) (Nat.le_trans HZ.out HBW11.out.size)) (Nat.le_refl _) (Q.NewRow.self _ _) ?_
              clear hG hX
              refine wpQuiet_nil ?_
              go_wp2_with fail
              have hb' : Below W13.heap.size W13 (W13.alloc (.cells #[.int .i64 0] tI)) := (Below.refl _ _).alloc (Nat.le_refl _) _
              refine Q.ev_keep hb' (Nat.le_trans HZ.out HBW13.out.size) ?_
              have hr := heap_alloc_new W13 (.cells #[.int .i64 0] tI)
              obtain ⟨W15, hWn⟩ : ∃ W', W13.alloc (.cells #[.int .i64 0] tI) = W' := ⟨_, rfl⟩
              have hsz : W13.heap.size < W15.heap.size := by rw [← hWn]; simp
              obtain ⟨g16, hgn⟩ : ∃ g, W13.heap.size = g := ⟨_, rfl⟩
              rw [hWn] at hb' hr ⊢
              rw [hgn] at hr hsz ⊢
              have HCW15 := Lib.hid hr
              have HLW15 := Lib.hid hsz
              have HBW15 := Lib.hid (HBW13.out.trans (hb'.mono (Nat.le_trans HZ.out HBW13.out.size)))
              have HXW15 := Lib.hid (HXW13.out.below hb')
              have HSW15 := Lib.hid (Kd.R_below HSW13.out hb')
              clear hr hb' hsz hWn hgn
              refine wpQuiet_nil ?_
              go_wp2_with (at_builtin; refine appn (w0 := Wd) .i64 (w.heap.size + 1) (.tmp 44) (.tmp 45) 72 tI 8 rfl rfl Try.underlying72 info_i (by decide) v14 ([] ++ l) [0] _ _ _ rfl rfl HSW15.out (C_blk (l := [0]) HCW15.out (by show 1 ≤ maxLen; decide)) HBW15.out (Nat.le_trans HZ.out HBW15.out.size) (by have := HLn.out; simp; omega) ?_; intro v18 W17 hr hb hg; (have HSW17 := Lib.hid hr); (have HBW17 := Lib.hid hb); (have hG := hg); clear hr hb hg)
              have hX : OB w.heap.size s W17 := blk_grown HXW15.out hG (own_ne (Kd.own_of_R HSW15.out) HXW15.out (by decide))
              have HXW17 := Lib.hid hX
              refine Q.ev_app (gr_own hG (fun k hk => R_base HSW15.out k hk) (Nat.le_trans HZ.out HBW15.out.size)) (Nat.le_refl _) (Q.NewRow.self _ _) ?_
              clear hG hX
              refine wpQuiet_nil ?_
              obtain ⟨A22, q23, hv, hq, hC⟩ := Kd.R_reads HSW17.out
              subst hv
              rw [List.nil_append] at hC hq ⊢
              have hq6 := change_any s (l ++ [0]) A22 q23 W17 HS.out hC hq
              rw [chg_end s HAll.out] at hq6
              obtain ⟨n5, hn5⟩ : ∃ n, (l ++ [0]).length = n := ⟨_, rfl⟩
              rw [hn5] at hq6 ⊢
              have HQ := Lib.hid hq6
              clear hC hq hq6 hn5
              go_wp2_with (go_at_call 37; refine HQ.out.mono ?_; rintro e W21 ⟨rfl, hb5⟩; (have HXW21 := Lib.hid (HXW17.out.below hb5)); (have HBW21 := Lib.hid (HBW17.out.trans (hb5.mono (Nat.le_trans HZ.out HBW17.out.size)))); (have Hb5 := Lib.hid hb5); clear hb5 HQ; (unfold stA); dsimp only)
              refine Q.ev_keep Hb5.out (Nat.le_trans HZ.out HBW17.out.size) ?_
              clear Hb5
              repeat (go_big_quiet_step (fail))
              refine wpQuiet_nil ?_
              refine NoPanic.normal ?_
              clear t2x
              have HBf := Lib.hid (HBw.out.trans (HBW21.out.mono (Nat.le_succ w.heap.size)))
              by_cases h2 : l.length < 2
              · have t3 : decide ((l.length : Int) < 2) = true := decide_eq_true (by omega)
                have t3n : decide (l.length < 2) = true := decide_eq_true h2
                clear h2
                have HBc := HBf
                go_wp2_with (go_at_call 30; refine (alive_any _).mono ?_; rintro e w1 ⟨rfl, hb1⟩; (have HB1 := Lib.hid (HBc.out.trans (hb1.mono HBc.out.size))); clear hb1)
                go_ret
                exact ⟨rfl, HB1.out⟩
              have t3 : decide ((l.length : Int) < 2) = false := decide_eq_false (by omega)
              have t3n : decide (l.length < 2) = false := decide_eq_false h2
              obtain ⟨hct, hCt⟩ := C_take1 A l.length c (by omega) HK.out
              obtain ⟨A9, c9, hcf, hc9, hCf⟩ := cutI A l.length c 1 1 rfl (by omega) HK.out
              have HCt := Lib.hid hCt
              have HCf := Lib.hid hCf
              have Hc9 := Lib.hid hc9
              have HL2 := Lib.hid (show 2 ≤ l.length from by omega)
              have z8 : (2 : Int) ≤ (l.length : Int) := by omega
              clear hCt hCf hc9 h2
              go_upto_region 14 with (fail)
              have HX1 := HXW21
              have HB1 := HBf
              have HXd := Lib.hid (show OB w.heap.size s W21.drew from HXW21.out)
              have HBd := Lib.hid (show Below w.heap.size w W21.drew from HBf.out.drew)
              refine Q.wp_region_segs none [([], some 0), ([1, 2, 3, 4, 6, 7, 9, 10], some 5), ([], some 8), ([], some 11), ([12, 13, 14], none)] (by kernel_rfl) (by kernel_rfl) (by kernel_rfl) (by kernel_rfl) ?_
              dsimp only [Q.wpSegs, Q.picks, Q.pick]
              refine wpQuiet_nil ?_
              go_wp2_with (go_at_call 30; refine (alive_any _).mono ?_; rintro e Y1 ⟨rfl, hb⟩; (have HX2 := Lib.hid (HXd.out.below hb)); (have HB2 := Lib.hid (HBd.out.trans (hb.mono HBd.out.size))); (have Hb := Lib.hid hb); clear hb)
              refine Q.ev_done Hb.out (Nat.le_refl _) ?_
              clear HXd HBd Hb
              go_big_quiet_step (fail)
              refine quiet_loadG tS (.tmp 3) (.pointer (some ⟨w.heap.size, 0, none⟩)) (.agg #[.int .u8 (s.1 : Int), .int .u32 (s.2.1 : Int), .int .u32 (s.2.2 : Int)]) rfl rfl rfl (HX2.out.loadQ (by exact HX2.out.lt)) ?_
              go_simp
              repeat (go_big_quiet_step (fail))
              refine quiet_loadG tS (.tmp 3) (.pointer (some ⟨w.heap.size, 0, none⟩)) (.agg #[.int .u8 (s.1 : Int), .int .u32 (s.2.1 : Int), .int .u32 (s.2.2 : Int)]) rfl rfl rfl (HX2.out.loadQ (by exact HX2.out.lt)) ?_
              go_simp
              repeat (go_big_quiet_step (fail))
              refine wpQuiet_nil ?_
              have HA1 := Lib.hid (HCt.out w l HC.out)
              have hq := change_any s (l.take 1) A c Y1 HS.out (Kd.C_below HA1.out.1 HB2.out) (by rw [HA1.out.2]; have := HK.out; have := HL2.out; omega)
              rw [HA1.out.2] at hq
              have HQ := Lib.hid hq
              clear hq
              go_wp2_with (go_at_call 37; refine HQ.out.mono ?_; rintro e Y2 ⟨rfl, hb⟩; (have HB3 := Lib.hid (HB2.out.trans (hb.mono HB2.out.size))); (have Hb := Lib.hid hb); clear hb HQ)
              refine Q.ev_done Hb.out (Nat.le_refl _) ?_
              clear Hb
              refine wpQuiet_nil ?_
              have hdl : (l.drop 1).length = l.length - 1 := List.length_drop
              have hq := change_any (chgS s (l.take 1)) (l.drop 1) A9 c9 Y2 (okS_chg _ HS.out) (by rw [hdl]; exact Kd.C_below (HCf.out w l HC.out) HB3.out) (by rw [hdl]; exact Hc9.out)
              rw [hdl, chg_parts s l HAll.out HL2.out] at hq
              have HQ := Lib.hid hq
              clear hq hdl
              go_wp2_with (go_at_call 37; refine HQ.out.mono ?_; rintro e Y3 ⟨rfl, hb⟩; (have HB4 := Lib.hid (HB3.out.trans (hb.mono HB3.out.size))); (have Hb := Lib.hid hb); clear hb HQ)
              refine Q.ev_done Hb.out (Nat.le_refl _) ?_
              clear Hb
              refine wpQuiet_nil ?_
              have hq := change_any s l A c Y3 HS.out (Kd.C_below HC.out HB4.out) HK.out
              have HQ := Lib.hid hq
              clear hq
              go_wp2_with (go_at_call 37; refine HQ.out.mono ?_; rintro e Y4 ⟨rfl, hb⟩; (have HB5 := Lib.hid (HB4.out.trans (hb.mono HB4.out.size))); (have Hb := Lib.hid hb); clear hb HQ)
              refine Q.ev_done Hb.out (Nat.le_refl _) ?_
              clear Hb
              obtain ⟨r, hr⟩ : ∃ r, chgS s l = r := ⟨_, rfl⟩
              rw [hr]
              unfold stA
              repeat (go_big_quiet_step (fail))
              refine wpQuiet_nil ?_
              refine NoPanic.normal ?_
              go_wp2_with fail
              go_ret
              exact ⟨rfl, HB5.out⟩
            · go_wp2_with fail
              have hb' : Below W11.heap.size W11 (W11.alloc (.cells #[.int .i64 0] tI)) := (Below.refl _ _).alloc (Nat.le_refl _) _
              refine Q.ev_keep hb' (Nat.le_trans HZ.out HBW11.out.size) ?_
              have hr := heap_alloc_new W11 (.cells #[.int .i64 0] tI)
              obtain ⟨W24, hWn⟩ : ∃ W', W11.alloc (.cells #[.int .i64 0] tI) = W' := ⟨_, rfl⟩
              have hsz : W11.heap.size < W24.heap.size := by rw [← hWn]; simp
              obtain ⟨g25, hgn⟩ : ∃ g, W11.heap.size = g := ⟨_, rfl⟩
              rw [hWn] at hb' hr ⊢
              rw [hgn] at hr hsz ⊢
              have HCW24 := Lib.hid hr
              have HLW24 := Lib.hid hsz
              have HBW24 := Lib.hid (HBW11.out.trans (hb'.mono (Nat.le_trans HZ.out HBW11.out.size)))
              have HXW24 := Lib.hid (HXW11.out.below hb')
              have HRW24 := Lib.hid (Kd.R_below HRW11.out hb')
              have HDW24 := Lib.hid (show ∀ k, Value.ownBlock (.slice (some ⟨g12, 0, none⟩) 0 0) = some k → k < g25 from fun k hk => by rw [← hgn]; exact Kd.R_lt HRW11.out k hk)
              clear hr hb' hsz hWn hgn
              refine wpQuiet_nil ?_
              go_wp2_with (at_builtin; refine appn (w0 := Wd) .i64 (w.heap.size + 1) (.tmp 42) (.tmp 43) 72 tI 8 rfl rfl Try.underlying72 info_i (by decide) (.slice (some ⟨g12, 0, none⟩) 0 0) [] l A _ c rfl rfl HRW24.out (Kd.C_below HC.out (HBw.out.trans (HBW24.out.mono (Nat.le_succ _)))) HBW24.out (Nat.le_trans HZ.out HBW24.out.size) (by have := HLn.out; simp; omega) ?_; intro v27 W26 hr hb hg; (have HSW26 := Lib.hid hr); (have HBW26 := Lib.hid hb); (have hG := hg); clear hr hb hg)
              have hX : OB w.heap.size s W26 := blk_grown HXW24.out hG (own_ne (Kd.own_of_R HRW24.out) HXW24.out (by decide))
              have HXW26 := Lib.hid hX
              have HCW26 := Lib.hid (blk_grown HCW24.out hG (fun e => by have := HDW24.out _ e.symm; omega))
              refine Q.ev_app (gr_own hG (fun k hk => R_base HRW24.out k hk) (Nat.le_trans HZ.out HBW24.out.size)) (Nat.le_refl _) (Q.NewRow.self _ _) ?_
              clear hG hX
              refine wpQuiet_nil ?_
              go_wp2_with (at_builtin; refine appn (w0 := Wd) .i64 (w.heap.size + 1) (.tmp 44) (.tmp 45) 72 tI 8 rfl rfl Try.underlying72 info_i (by decide) v27 ([] ++ l) [0] _ _ _ rfl rfl HSW26.out (C_blk (l := [0]) HCW26.out (by show 1 ≤ maxLen; decide)) HBW26.out (Nat.le_trans HZ.out HBW26.out.size) (by have := HLn.out; simp; omega) ?_; intro v29 W28 hr hb hg; (have HSW28 := Lib.hid hr); (have HBW28 := Lib.hid hb); (have hG := hg); clear hr hb hg)
              have hX : OB w.heap.size s W28 := blk_grown HXW26.out hG (own_ne (Kd.own_of_R HSW26.out) HXW26.out (by decide))
              have HXW28 := Lib.hid hX
              refine Q.ev_app (gr_own hG (fun k hk => R_base HSW26.out k hk) (Nat.le_trans HZ.out HBW26.out.size)) (Nat.le_refl _) (Q.NewRow.self _ _) ?_
              clear hG hX
              refine wpQuiet_nil ?_
              obtain ⟨A33, q34, hv, hq, hC⟩ := Kd.R_reads HSW28.out
              subst hv
              rw [List.nil_append] at hC hq ⊢
              have hq6 := change_any s (l ++ [0]) A33 q34 W28 HS.out hC hq
              rw [chg_end s HAll.out] at hq6
              obtain ⟨n5, hn5⟩ : ∃ n, (l ++ [0]).length = n := ⟨_, rfl⟩
              rw [hn5] at hq6 ⊢
              have HQ := Lib.hid hq6
              clear hC hq hq6 hn5
              go_wp2_with (go_at_call 37; refine HQ.out.mono ?_; rintro e W32 ⟨rfl, hb5⟩; (have HXW32 := Lib.hid (HXW28.out.below hb5)); (have HBW32 := Lib.hid (HBW28.out.trans (hb5.mono (Nat.le_trans HZ.out HBW28.out.size)))); (have Hb5 := Lib.hid hb5); clear hb5 HQ; (unfold stA); dsimp only)
              refine Q.ev_keep Hb5.out (Nat.le_trans HZ.out HBW28.out.size) ?_
              clear Hb5
              repeat (go_big_quiet_step (fail))
              refine wpQuiet_nil ?_
              refine NoPanic.normal ?_
              clear t2x
              have HBf := Lib.hid (HBw.out.trans (HBW32.out.mono (Nat.le_succ w.heap.size)))
              by_cases h2 : l.length < 2
              · have t3 : decide ((l.length : Int) < 2) = true := decide_eq_true (by omega)
                have t3n : decide (l.length < 2) = true := decide_eq_true h2
                clear h2
                have HBc := HBf
                go_wp2_with (go_at_call 30; refine (alive_any _).mono ?_; rintro e w1 ⟨rfl, hb1⟩; (have HB1 := Lib.hid (HBc.out.trans (hb1.mono HBc.out.size))); clear hb1)
                go_ret
                exact ⟨rfl, HB1.out⟩
              have t3 : decide ((l.length : Int) < 2) = false := decide_eq_false (by omega)
              have t3n : decide (l.length < 2) = false := decide_eq_false h2
              obtain ⟨hct, hCt⟩ := C_take1 A l.length c (by omega) HK.out
              obtain ⟨A9, c9, hcf, hc9, hCf⟩ := cutI A l.length c 1 1 rfl (by omega) HK.out
              have HCt := Lib.hid hCt
              have HCf := Lib.hid hCf
              have Hc9 := Lib.hid hc9
              have HL2 := Lib.hid (show 2 ≤ l.length from by omega)
              have z8 : (2 : Int) ≤ (l.length : Int) := by omega
              clear hCt hCf hc9 h2
              go_upto_region 14 with (fail)
              have HX1 := HXW32
              have HB1 := HBf
              have HXd := Lib.hid (show OB w.heap.size s W32.drew from HXW32.out)
              have HBd := Lib.hid (show Below w.heap.size w W32.drew from HBf.out.drew)
              refine Q.wp_region_segs none [([], some 0), ([1, 2, 3, 4, 6, 7, 9, 10], some 5), ([], some 8), ([], some 11), ([12, 13, 14], none)] (by kernel_rfl) (by kernel_rfl) (by kernel_rfl) (by kernel_rfl) ?_
              dsimp only [Q.wpSegs, Q.picks, Q.pick]
              refine wpQuiet_nil ?_
              go_wp2_with (go_at_call 30; refine (alive_any _).mono ?_; rintro e Y1 ⟨rfl, hb⟩; (have HX2 := Lib.hid (HXd.out.below hb)); (have HB2 := Lib.hid (HBd.out.trans (hb.mono HBd.out.size))); (have Hb := Lib.hid hb); clear hb)
              refine Q.ev_done Hb.out (Nat.le_refl _) ?_
              clear HXd HBd Hb
              go_big_quiet_step (fail)
              refine quiet_loadG tS (.tmp 3) (.pointer (some ⟨w.heap.size, 0, none⟩)) (.agg #[.int .u8 (s.1 : Int), .int .u32 (s.2.1 : Int), .int .u32 (s.2.2 : Int)]) rfl rfl rfl (HX2.out.loadQ (by exact HX2.out.lt)) ?_
              go_simp
              repeat (go_big_quiet_step (fail))
              refine quiet_loadG tS (.tmp 3) (.pointer (some ⟨w.heap.size, 0, none⟩)) (.agg #[.int .u8 (s.1 : Int), .int .u32 (s.2.1 : Int), .int .u32 (s.2.2 : Int)]) rfl rfl rfl (HX2.out.loadQ (by exact HX2.out.lt)) ?_
              go_simp
              repeat (go_big_quiet_step (fail))
              refine wpQuiet_nil ?_
              have HA1 := Lib.hid (HCt.out w l HC.out)
              have hq := change_any s (l.take 1) A c Y1 HS.out (Kd.C_below HA1.out.1 HB2.out) (by rw [HA1.out.2]; have := HK.out; have := HL2.out; omega)
              rw [HA1.out.2] at hq
              have HQ := Lib.hid hq
              clear hq
              go_wp2_with (go_at_call 37; refine HQ.out.mono ?_; rintro e Y2 ⟨rfl, hb⟩; (have HB3 := Lib.hid (HB2.out.trans (hb.mono HB2.out.size))); (have Hb := Lib.hid hb); clear hb HQ)
              refine Q.ev_done Hb.out (Nat.le_refl _) ?_
              clear Hb
              refine wpQuiet_nil ?_
              have hdl : (l.drop 1).length = l.length - 1 := List.length_drop
              have hq := change_any (chgS s (l.take 1)) (l.drop 1) A9 c9 Y2 (okS_chg _ HS.out) (by rw [hdl]; exact Kd.C_below (HCf.out w l HC.out) HB3.out) (by rw [hdl]; exact Hc9.out)
              rw [hdl, chg_parts s l HAll.out HL2.out] at hq
              have HQ := Lib.hid hq
              clear hq hdl
              go_wp2_with (go_at_call 37; refine HQ.out.mono ?_; rintro e Y3 ⟨rfl, hb⟩; (have HB4 := Lib.hid (HB3.out.trans (hb.mono HB3.out.size))); (have Hb := Lib.hid hb); clear hb HQ)
              refine Q.ev_done Hb.out (Nat.le_refl _) ?_
              clear Hb
              refine wpQuiet_nil ?_
              have hq := change_any s l A c Y3 HS.out (Kd.C_below HC.out HB4.out) HK.out
              have HQ := Lib.hid hq
              clear hq
              go_wp2_with (go_at_call 37; refine HQ.out.mono ?_; rintro e Y4 ⟨rfl, hb⟩; (have HB5 := Lib.hid (HB4.out.trans (hb.mono HB4.out.size))); (have Hb := Lib.hid hb); clear hb HQ)
              refine Q.ev_done Hb.out (Nat.le_refl _) ?_
              clear Hb
              obtain ⟨r, hr⟩ : ∃ r, chgS s l = r := ⟨_, rfl⟩
              rw [hr]
              unfold stA
              repeat (go_big_quiet_step (fail))
              refine wpQuiet_nil ?_
              refine NoPanic.normal ?_
              go_wp2_with fail
              go_ret
              exact ⟨rfl, HB5.out⟩
          · go_wp2_with fail
            have hb' : Below Wd.heap.size Wd (Wd.alloc (.cells #[.int .i64 0] tI)) := (Below.refl _ _).alloc (Nat.le_refl _) _
            refine Q.ev_keep hb' (Nat.le_trans HZ.out HBd.out.size) ?_
            have hr := heap_alloc_new Wd (.cells #[.int .i64 0] tI)
            obtain ⟨W35, hWn⟩ : ∃ W', Wd.alloc (.cells #[.int .i64 0] tI) = W' := ⟨_, rfl⟩
            have hsz : Wd.heap.size < W35.heap.size := by rw [← hWn]; simp
            obtain ⟨g36, hgn⟩ : ∃ g, Wd.heap.size = g := ⟨_, rfl⟩
            rw [hWn] at hb' hr ⊢
            rw [hgn] at hr hsz ⊢
            have HCW35 := Lib.hid hr
            have HLW35 := Lib.hid hsz
            have HBW35 := Lib.hid (HBd.out.trans (hb'.mono (Nat.le_trans HZ.out HBd.out.size)))
            have HXW35 := Lib.hid (HXd.out.below hb')
            clear hr hb' hsz hWn hgn
            refine wpQuiet_nil ?_
            go_wp2_with fail
            have hb' : Below W35.heap.size W35 (W35.alloc (.cells #[] tI)) := (Below.refl _ _).alloc (Nat.le_refl _) _
            refine Q.ev_keep hb' (Nat.le_trans HZ.out HBW35.out.size) ?_
            have hr := R_empty (k := .i64) (e := tI) (Nat.le_trans HZ.out HBW35.out.size) tI rfl
            obtain ⟨W37, hWn⟩ : ∃ W', W35.alloc (.cells #[] tI) = W' := ⟨_, rfl⟩
            obtain ⟨g38, hgn⟩ : ∃ g, W35.heap.size = g := ⟨_, rfl⟩
            rw [hWn] at hb' hr ⊢
            rw [hgn] at hr ⊢
            have HRW37 := Lib.hid hr
            have HBW37 := Lib.hid (HBW35.out.trans (hb'.mono (Nat.le_trans HZ.out HBW35.out.size)))
            have HXW37 := Lib.hid (HXW35.out.below hb')
            have HCW37 := Lib.hid (blk_below HCW35.out hb')
            have HLW37 := Lib.hid (show g36 < g38 from by rw [← hgn]; exact HLW35.out)
            clear hr hb' hWn hgn
            refine wpQuiet_nil ?_
            go_wp2_with (at_builtin; refine appn (w0 := Wd) .i64 (w.heap.size + 1) (.tmp 42) (.tmp 43) 72 tI 8 rfl rfl Try.underlying72 info_i (by decide) (.slice (some ⟨g38, 0, none⟩) 0 0) [] l A _ c rfl rfl HRW37.out (Kd.C_below HC.out (HBw.out.trans (HBW37.out.mono (Nat.le_succ _)))) HBW37.out (Nat.le_trans HZ.out HBW37.out.size) (by have := HLn.out; simp; omega) ?_; intro v40 W39 hr hb hg; (have HSW39 := Lib.hid hr); (have HBW39 := Lib.hid hb); (have hG := hg); clear hr hb hg)
            have hX : OB w.heap.size s W39 := blk_grown HXW37.out hG (own_ne (Kd.own_of_R HRW37.out) HXW37.out (by decide))
            have HXW39 := Lib.hid hX
            have HCW39 := Lib.hid (blk_grown HCW37.out hG (fun e => by injection e with e; have e2 : g36 = g38 := e; have := HLW37.out; omega))
            refine Q.ev_app (gr_own hG (fun k hk => R_base HRW37.out k hk) (Nat.le_trans HZ.out HBW37.out.size)) (Nat.le_refl _) (Q.NewRow.self _ _) ?_
            clear hG hX
            refine wpQuiet_nil ?_
            go_wp2_with (at_builtin; refine appn (w0 := Wd) .i64 (w.heap.size + 1) (.tmp 44) (.tmp 45) 72 tI 8 rfl rfl Try.underlying72 info_i (by decide) v40 ([] ++ l) [0] _ _ _ rfl rfl HSW39.out (C_blk (l := [0]) HCW39.out (by show 1 ≤ maxLen; decide)) HBW39.out (Nat.le_trans HZ.out HBW39.out.size) (by have := HLn.out; simp; omega) ?_; intro v42 W41 hr hb hg; (have HSW41 := Lib.hid hr); (have HBW41 := Lib.hid hb); (have hG := hg); clear hr hb hg)
            have hX : OB w.heap.size s W41 := blk_grown HXW39.out hG (own_ne (Kd.own_of_R HSW39.out) HXW39.out (by decide))
            have HXW41 := Lib.hid hX
            refine Q.ev_app (gr_own hG (fun k hk => R_base HSW39.out k hk) (Nat.le_trans HZ.out HBW39.out.size)) (Nat.le_refl _) (Q.NewRow.self _ _) ?_
            clear hG hX
            refine wpQuiet_nil ?_
            obtain ⟨A46, q47, hv, hq, hC⟩ := Kd.R_reads HSW41.out
            subst hv
            rw [List.nil_append] at hC hq ⊢
            have hq6 := change_any s (l ++ [0]) A46 q47 W41 HS.out hC hq
            rw [chg_end s HAll.out] at hq6
            obtain ⟨n5, hn5⟩ : ∃ n, (l ++ [0]).length = n := ⟨_, rfl⟩
            rw [hn5] at hq6 ⊢
            have HQ := Lib.hid hq6
            clear hC hq hq6 hn5
            go_wp2_with (go_at_call 37; refine HQ.out.mono ?_; rintro e W45 ⟨rfl, hb5⟩; (have HXW45 := Lib.hid (HXW41.out.below hb5)); (have HBW45 := Lib.hid (HBW41.out.trans (hb5.mono (Nat.le_trans HZ.out HBW41.out.size)))); (have Hb5 := Lib.hid hb5); clear hb5 HQ; (unfold stA); dsimp only)
            refine Q.ev_keep Hb5.out (Nat.le_trans HZ.out HBW41.out.size) ?_
            clear Hb5
            repeat (go_big_quiet_step (fail))
            refine wpQuiet_nil ?_
            refine NoPanic.normal ?_
            clear t2x
            have HBf := Lib.hid (HBw.out.trans (HBW45.out.mono (Nat.le_succ w.heap.size)))
            by_cases h2 : l.length < 2
            · have t3 : decide ((l.length : Int) < 2) = true := decide_eq_true (by omega)
              have t3n : decide (l.length < 2) = true := decide_eq_true h2
              clear h2
              have HBc := HBf
              go_wp2_with (go_at_call 30; refine (alive_any _).mono ?_; rintro e w1 ⟨rfl, hb1⟩; (have HB1 := Lib.hid (HBc.out.trans (hb1.mono HBc.out.size))); clear hb1)
              go_ret
              exact ⟨rfl, HB1.out⟩
            have t3 : decide ((l.length : Int) < 2) = false := decide_eq_false (by omega)
            have t3n : decide (l.length < 2) = false := decide_eq_false h2
            obtain ⟨hct, hCt⟩ := C_take1 A l.length c (by omega) HK.out
            obtain ⟨A9, c9, hcf, hc9, hCf⟩ := cutI A l.length c 1 1 rfl (by omega) HK.out
            have HCt := Lib.hid hCt
            have HCf := Lib.hid hCf
            have Hc9 := Lib.hid hc9
            have HL2 := Lib.hid (show 2 ≤ l.length from by omega)
            have z8 : (2 : Int) ≤ (l.length : Int) := by omega
            clear hCt hCf hc9 h2
            go_upto_region 14 with (fail)
            have HX1 := HXW45
            have HB1 := HBf
            have HXd := Lib.hid (show OB w.heap.size s W45.drew from HXW45.out)
            have HBd := Lib.hid (show Below w.heap.size w W45.drew from HBf.out.drew)
            refine Q.wp_region_segs none [([], some 0), ([1, 2, 3, 4, 6, 7, 9, 10], some 5), ([], some 8), ([], some 11), ([12, 13, 14], none)] (by kernel_rfl) (by kernel_rfl) (by kernel_rfl) (by kernel_rfl) ?_
            dsimp only [Q.wpSegs, Q.picks, Q.pick]
            refine wpQuiet_nil ?_
            go_wp2_with (go_at_call 30; refine (alive_any _).mono ?_; rintro e Y1 ⟨rfl, hb⟩; (have HX2 := Lib.hid (HXd.out.below hb)); (have HB2 := Lib.hid (HBd.out.trans (hb.mono HBd.out.size))); (have Hb := Lib.hid hb); clear hb)
            refine Q.ev_done Hb.out (Nat.le_refl _) ?_
            clear HXd HBd Hb
            go_big_quiet_step (fail)
            refine quiet_loadG tS (.tmp 3) (.pointer (some ⟨w.heap.size, 0, none⟩)) (.agg #[.int .u8 (s.1 : Int), .int .u32 (s.2.1 : Int), .int .u32 (s.2.2 : Int)]) rfl rfl rfl (HX2.out.loadQ (by exact HX2.out.lt)) ?_
            go_simp
            repeat (go_big_quiet_step (fail))
            refine quiet_loadG tS (.tmp 3) (.pointer (some ⟨w.heap.size, 0, none⟩)) (.agg #[.int .u8 (s.1 : Int), .int .u32 (s.2.1 : Int), .int .u32 (s.2.2 : Int)]) rfl rfl rfl (HX2.out.loadQ (by exact HX2.out.lt)) ?_
            go_simp
            repeat (go_big_quiet_step (fail))
            refine wpQuiet_nil ?_
            have HA1 := Lib.hid (HCt.out w l HC.out)
            have hq := change_any s (l.take 1) A c Y1 HS.out (Kd.C_below HA1.out.1 HB2.out) (by rw [HA1.out.2]; have := HK.out; have := HL2.out; omega)
            rw [HA1.out.2] at hq
            have HQ := Lib.hid hq
            clear hq
            go_wp2_with (go_at_call 37; refine HQ.out.mono ?_; rintro e Y2 ⟨rfl, hb⟩; (have HB3 := Lib.hid (HB2.out.trans (hb.mono HB2.out.size))); (have Hb := Lib.hid hb); clear hb HQ)
            refine Q.ev_done Hb.out (Nat.le_refl _) ?_
            clear Hb
            refine wpQuiet_nil ?_
            have hdl : (l.drop 1).length = l.length - 1 := List.length_drop
            have hq := change_any (chgS s (l.take 1)) (l.drop 1) A9 c9 Y2 (okS_chg _ HS.out) (by rw [hdl]; exact Kd.C_below (HCf.out w l HC.out) HB3.out) (by rw [hdl]; exact Hc9.out)
            rw [hdl, chg_parts s l HAll.out HL2.out] at hq
            have HQ := Lib.hid hq
            clear hq hdl
            go_wp2_with (go_at_call 37; refine HQ.out.mono ?_; rintro e Y3 ⟨rfl, hb⟩; (have HB4 := Lib.hid (HB3.out.trans (hb.mono HB3.out.size))); (have Hb := Lib.hid hb); clear hb HQ)
            refine Q.ev_done Hb.out (Nat.le_refl _) ?_
            clear Hb
            refine wpQuiet_nil ?_
            have hq := change_any s l A c Y3 HS.out (Kd.C_below HC.out HB4.out) HK.out
            have HQ := Lib.hid hq
            clear hq
            go_wp2_with (go_at_call 37; refine HQ.out.mono ?_; rintro e Y4 ⟨rfl, hb⟩; (have HB5 := Lib.hid (HB4.out.trans (hb.mono HB4.out.size))); (have Hb := Lib.hid hb); clear hb HQ)
            refine Q.ev_done Hb.out (Nat.le_refl _) ?_
            clear Hb
            obtain ⟨r, hr⟩ : ∃ r, chgS s l = r := ⟨_, rfl⟩
            rw [hr]
            unfold stA
            repeat (go_big_quiet_step (fail))
            refine wpQuiet_nil ?_
            refine NoPanic.normal ?_
            go_wp2_with fail
            go_ret
            exact ⟨rfl, HB5.out⟩
end Go.Proofs.Ythgdbdhonhkkpaa.St
