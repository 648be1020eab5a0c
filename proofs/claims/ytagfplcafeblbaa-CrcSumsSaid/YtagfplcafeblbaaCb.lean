/-
  crc: a Summer in memory; fill; sync.Once, one goroutine (the pointers' types by number: 122, 126).
-/
import Derived.Test.YtagfplcafeblbaaL
import Derived.Test.YtagfplcafeblbaaCa
import Derived.Defers
import Derived.Laws.Pointers
import Derived.Laws.LoneSync
import Derived.RegionTactic
import Derived.RegionCalls
import Derived.Tactics2
namespace Go.Proofs.Ytagfplcafeblbaa.C
open Go.RowKit Go.Proofs.Ytagfplcafeblbaa.L Go.Proofs.YtagfplcafeblbaaW.PrintWords

abbrev tS : TypeId := 60
def SC (dn st : Int) (tbl : List Nat) (r : Int) : List Value := .int .u32 dn :: .int .i32 st :: .int .u32 0 :: (tbl.map (fun x => Value.int .u32 (x : Nat)) ++ [.int .i64 r])
structure SB (b : Nat) (dn st : Int) (tbl : List Nat) (r : Int) (w : World) : Prop where
  blk : w.heap[b]? = some (.cells (SC dn st tbl r).toArray tS (0, 0))
  len : tbl.length = 256
theorem SB.lt {b : Nat} {dn st r : Int} {tbl : List Nat} {w : World} (h : SB b dn st tbl r w) : b < w.heap.size := blk_lt h.blk
theorem SB.c0 {b : Nat} {dn st r : Int} {tbl : List Nat} {w : World} (h : SB b dn st tbl r w) : w.cell? ⟨b, 0, none⟩ = some (.int .u32 dn) := by rw [blk_cell h.blk]; rfl
theorem SB.c1 {b : Nat} {dn st r : Int} {tbl : List Nat} {w : World} (h : SB b dn st tbl r w) : w.cell? ⟨b, 1, none⟩ = some (.int .i32 st) := by rw [blk_cell h.blk]; rfl
theorem SB.ct {b : Nat} {dn st r : Int} {tbl : List Nat} {w : World} (h : SB b dn st tbl r w) {i : Nat} (hi : i < 256) : w.cell? ⟨b, 3 + i, none⟩ = some (.int .u32 (tbl.getD i 0 : Nat)) := by
  have hl := h.len
  rw [blk_cell h.blk, List.getElem?_toArray, show 3 + i = i + 1 + 1 + 1 from by omega]
  simp only [SC, List.getElem?_cons_succ]
  rw [List.getElem?_append_left (by simp; omega), List.getElem?_map, List.getD_eq_getElem?_getD, List.getElem?_eq_getElem (by omega)]
  rfl
theorem SB.cr {b : Nat} {dn st r : Int} {tbl : List Nat} {w : World} (h : SB b dn st tbl r w) : w.cell? ⟨b, 259, none⟩ = some (.int .i64 r) := by
  have hl := h.len
  rw [blk_cell h.blk, List.getElem?_toArray]
  simp only [SC, List.getElem?_cons_succ]
  rw [List.getElem?_append_right (by simp; omega)]
  simp [hl]
theorem SB.fz {b : Nat} {dn st r : Int} {tbl : List Nat} {w : World} (h : SB b dn st tbl r w) (i : Nat) : w.frozen? ⟨b, i, none⟩ = false := blk_frozen h.blk i
theorem SB.set {b : Nat} {dn st r : Int} {tbl : List Nat} {w : World} (h : SB b dn st tbl r w) (i : Nat) (u : Value) : (w.setCell ⟨b, i, none⟩ u).heap[b]? = some (.cells ((SC dn st tbl r).set i u).toArray tS (0, 0)) := by
  rw [blk_set h.blk i u]
  simp
theorem SB.s0 {b : Nat} {dn st r : Int} {tbl : List Nat} {w : World} (h : SB b dn st tbl r w) (x : Int) : SB b x st tbl r (w.setCell ⟨b, 0, none⟩ (.int .u32 x)) := ⟨h.set 0 _, h.len⟩
theorem SB.s1 {b : Nat} {dn st r : Int} {tbl : List Nat} {w : World} (h : SB b dn st tbl r w) (x : Int) : SB b dn x tbl r (w.setCell ⟨b, 1, none⟩ (.int .i32 x)) := ⟨h.set 1 _, h.len⟩
theorem SB.st {b : Nat} {dn st r : Int} {tbl : List Nat} {w : World} (h : SB b dn st tbl r w) {i : Nat} (hi : i < 256) (x : Nat) : SB b dn st (tbl.set i x) r (w.setCell ⟨b, 3 + i, none⟩ (.int .u32 (x : Nat))) := by
  have hl := h.len
  refine ⟨?_, by rw [List.length_set]; exact h.len⟩
  rw [h.set (3 + i), show 3 + i = i + 1 + 1 + 1 from by omega]
  simp only [SC, List.set_cons_succ, List.map_set]
  rw [List.set_append_left _ _ (by simp; omega)]
theorem SB.sr {b : Nat} {dn st r : Int} {tbl : List Nat} {w : World} (h : SB b dn st tbl r w) (x : Int) : SB b dn st tbl x (w.setCell ⟨b, 259, none⟩ (.int .i64 x)) := by
  have hl := h.len
  refine ⟨?_, h.len⟩
  rw [h.set 259]
  simp only [SC, List.set_cons_succ]
  rw [List.set_append_right _ _ (by simp; omega)]
  simp [hl]
theorem SB.keep {b : Nat} {dn st r : Int} {tbl : List Nat} {w w1 : World} (h : SB b dn st tbl r w) (hm : w1.heap[b]? = w.heap[b]?) : SB b dn st tbl r w1 := ⟨hm.trans h.blk, h.len⟩
theorem gset (w : World) (b i : Nat) (v : Value) : w.grownBy (w.setCell ⟨b, i, none⟩ v) (some b) := ⟨rfl, rfl, rfl, by simp [World.setCell], fun k _ hne => Below.heap_setCell _ _ _ _ (fun e => hne (by rw [e]))⟩
theorem gdrew (w : World) (row : Option Nat) : w.grownBy w.drew row := ⟨rfl, rfl, rfl, Nat.le_refl _, fun _ _ _ => rfl⟩
theorem gbelow {w w1 : World} (h : Below w.heap.size w w1) (row : Option Nat) : w.grownBy w1 row := ⟨h.os, h.tape, h.output, h.size, fun k hk _ => h.block k hk⟩

/-- the table -/
def TT : List Nat := (List.range 256).map (it 8)
theorem TT_len : TT.length = 256 := by simp [TT]
theorem TT_get {i : Nat} (h : i < 256) : TT.getD i 0 = it 8 i := by
  unfold TT
  rw [List.getD_eq_getElem?_getD, List.getElem?_map, List.getElem?_range h]
  rfl
/-- the table, filled up to i -/
def fld (tbl : List Nat) (i : Nat) : List Nat := TT.take i ++ tbl.drop i
theorem fld_step {tbl : List Nat} (hl : tbl.length = 256) {i : Nat} (h : i < 256) : (fld tbl i).set i (it 8 i) = fld tbl (i + 1) := by
  unfold fld
  have h1 : (TT.take i).length = i := by rw [List.length_take, TT_len]; omega
  rw [List.set_append_right _ _ (by omega), h1, Nat.sub_self, List.drop_eq_getElem_cons (by omega), List.set_cons_zero, List.take_succ_eq_append_getElem (by rw [TT_len]; exact h)]
  have := TT_get h
  rw [List.getD_eq_getElem?_getD, List.getElem?_eq_getElem (by rw [TT_len]; exact h)] at this
  simp only [Option.getD_some] at this
  rw [this]
  simp
theorem fld_len {tbl : List Nat} (hl : tbl.length = 256) {i : Nat} (h : i ≤ 256) : (fld tbl i).length = 256 := by
  unfold fld
  have := TT_len
  simp
  omega
theorem and_u32 (a b : Nat) (ha : a < 2 ^ 32) (hb : b < 2 ^ 32) : bits .and .u32 (a : Int) (b : Int) = ((a &&& b : Nat) : Int) := (bits_nat .u32 32 (by decide) (fun n h0 h1 => wraps_u32 n h0 h1) a b ha hb).1
theorem xor_nat (k : IntKind) (j : Nat) (hj : j ≤ k.bits) (hk : ∀ n : Int, 0 ≤ n → n < 2 ^ j → k.wrap n = n) (a b : Nat) (ha : a < 2 ^ j) (hb : b < 2 ^ j) : bits .xor k a b = ((a ^^^ b : Nat) : Int) := by
  have hp : 2 ^ j ≤ 2 ^ k.bits := Nat.pow_le_pow_right (by decide) hj
  have ha' : a % 2 ^ k.bits = a := Nat.mod_eq_of_lt (Nat.lt_of_lt_of_le ha hp)
  have hb' : b % 2 ^ k.bits = b := Nat.mod_eq_of_lt (Nat.lt_of_lt_of_le hb hp)
  simp only [bits, BitVec.ofInt_natCast, BitVec.toNat_xor, BitVec.toNat_ofNat, ha', hb']
  exact hk _ (Int.natCast_nonneg _) (by exact_mod_cast Nat.xor_lt_two_pow ha hb)
theorem xor_u32 (a b : Nat) (ha : a < 2 ^ 32) (hb : b < 2 ^ 32) : bits .xor .u32 (a : Int) (b : Int) = ((a ^^^ b : Nat) : Int) := xor_nat .u32 32 (by decide) (fun n h0 h1 => wraps_u32 n h0 h1) a b ha hb
theorem xor_u8 (a b : Nat) (ha : a < 2 ^ 8) (hb : b < 2 ^ 8) : bits .xor .u8 (a : Int) (b : Int) = ((a ^^^ b : Nat) : Int) := xor_nat .u8 8 (by decide) wraps_u8 a b ha hb

set_option maxHeartbeats 1600000 in
set_option maxRecDepth 100000 in
theorem fill_any (b : Nat) (dn st r : Int) (tbl : List Nat) (w : World) (h : SB b dn st tbl r w) : Calls Try.prog 45 #[.pointer (some ⟨b, 0, none⟩)] w fun e w' => e = .returned (.tuple #[]) ∧ SB b dn st TT r w' ∧ w.grownBy w' (some b) := by
  have HL := Lib.hid h.len
  have HS := Lib.hid (show SB b dn st (fld tbl 0) r w from by simpa [fld] using h)
  clear h
  go_enter Try.func45, Try.ntmps45
  go_wp2_with fail
  go_loopg [4] 257 (fun g v4 w' => ∃ (i : Nat), v4 = .int .i64 i ∧ Hid (i ≤ 256 ∧ 256 < g + i) ∧ Hid (SB b dn st (fld tbl i) r w') ∧ Hid (w.grownBy w' (some b)))
  case atStart => exact ⟨0, rfl, Lib.hid ⟨by omega, by omega⟩, HS, Lib.hid (World.grownBy.refl _ _)⟩
  case round =>
    clear HS
    obtain ⟨i, rfl, HJ, HS, HG⟩ := hrel
    cases gk with
    | zero => have := HJ.out; omega
    | succ k =>
      by_cases hlt : i < 256
      · have HJ' := Lib.hid (show i < 256 ∧ 256 < (k + 1) + i from ⟨hlt, HJ.out.2⟩)
        have hw : IntKind.u32.wrap (i : Int) = i := wraps_u32 _ (by omega) (by omega)
        clear HJ
        go_wp2_with fail
        clear hw
        obtain ⟨wo, rfl⟩ : ∃ wo : World, wo = wr := ⟨_, rfl⟩
        go_loopg [3, 9] 9 (fun g v3 v9 w' => ∃ (j v : Nat), v9 = .int .i64 j ∧ v3 = .int .u32 v ∧ Hid (j ≤ 8 ∧ 8 < g + j) ∧ Hid (v = it j i ∧ v < 4294967296) ∧ Hid (wo = w'))
        case atStart => exact ⟨0, i, rfl, rfl, Lib.hid ⟨by omega, by omega⟩, Lib.hid ⟨rfl, by omega⟩, Lib.hid rfl⟩
        case round =>
          obtain ⟨j, v, rfl, rfl, HJ, HV, HW⟩ := hrel
          obtain rfl := HW.out
          clear HW
          cases gk with
          | zero => have := HJ.out; omega
          | succ k2 =>
            by_cases hj : j < 8
            · have HJ2 := Lib.hid (show j < 8 ∧ 8 < (k2 + 1) + j from ⟨hj, HJ.out.2⟩)
              have hv := HV.out.2
              have HV2 := Lib.hid (show stp v = it (j + 1) i ∧ stp v < 4294967296 from ⟨by rw [it_add j 1, ← HV.out.1]; rfl, stp_lt hv⟩)
              have e1 : bits .and .u32 (v : Int) 1 = ((v % 2 : Nat) : Int) := by
                have := and_u32 v 1 (by omega) (by decide)
                rwa [Nat.and_one_is_mod] at this
              have e3 : bits .xor .u32 ((v / 2 : Nat) : Int) 3988292384 = ((v / 2 ^^^ poly : Nat) : Int) := xor_u32 (v / 2) poly (by omega) (by decide)
              have hv0 : (0 : Int) ≤ (v : Int) := by omega
              have e4 : bits .xor .u32 ((v : Int) / 2) 3988292384 = ((v / 2 ^^^ poly : Nat) : Int) := by
                rw [show (v : Int) / 2 = ((v / 2 : Nat) : Int) from by simp]
                exact e3
              clear HJ
              rcases Nat.mod_two_eq_zero_or_one v with hm | hm
              · have t1 : (((v % 2 : Nat) : Int) == 1) = false := by rw [hm]; rfl
                have HS2 := Lib.hid (show v / 2 = stp v from by unfold stp; rw [hm]; rfl)
                clear hm
                go_wp2_with fail
                go_roundg k2
                case measure => have := HJ2.out; omega
                case rel => exact ⟨j + 1, stp v, by go_num, by first | (rw [HS2.out]; done) | (rw [← HS2.out]; done) | (rw [← HS2.out]; simp), Lib.hid (by have := HJ2.out; omega), HV2, Lib.hid rfl⟩
              · have t1 : (((v % 2 : Nat) : Int) == 1) = true := by rw [hm]; rfl
                have HS2 := Lib.hid (show v / 2 ^^^ poly = stp v from by unfold stp; rw [hm]; rfl)
                clear hm
                go_wp2_with fail
                go_roundg k2
                case measure => have := HJ2.out; omega
                case rel => exact ⟨j + 1, stp v, by go_num, by first | (rw [HS2.out]; done) | (rw [← HS2.out]; done) | (rw [← HS2.out]; simp), Lib.hid (by have := HJ2.out; omega), HV2, Lib.hid rfl⟩
            · have hj8 : j = 8 := by have := HJ.out; omega
              subst hj8
              have f1 := HS.out.ct hlt
              have f2 := HS.out.fz (3 + i)
              have z1 : (0 : Int) ≤ (i : Int) := by omega
              have z2 : (i : Int) < 256 := by omega
              clear HJ
              go_wp2_with fail
              go_roundg k
              case measure => have := HJ'.out; omega
              case rel => exact ⟨i + 1, by go_num, Lib.hid (by have := HJ'.out; omega), Lib.hid (by
                have := HS.out.st hlt (it 8 i)
                rw [fld_step HL.out hlt] at this
                rw [HV.out.1]
                exact this), Lib.hid (HG.out.trans (gset _ _ _ _))⟩
      · have hi : i = 256 := by have := HJ.out; omega
        subst hi
        go_wp2_with fail
        go_end0
        refine ⟨rfl, ?_, HG.out⟩
        have := HS.out
        rwa [show fld tbl 256 = TT from by
          unfold fld
          rw [List.take_of_length_le (by rw [TT_len]; omega), List.drop_of_length_le (by rw [HL.out]; omega)]
          simp] at this

/-! sync.Once, one goroutine -/
theorem disable (w : World) : (callFunc 79 #[]).run Try.prog w = .ok (.value (.tuple #[])) w := run_call_mark0 Try.func79 (by kernel_rfl) (by kernel_rfl) (by kernel_rfl) .disable (by kernel_rfl) w
theorem enable (w : World) : (callFunc 81 #[]).run Try.prog w = .ok (.value (.tuple #[])) w := run_call_mark0 Try.func81 (by kernel_rfl) (by kernel_rfl) (by kernel_rfl) .enable (by kernel_rfl) w
theorem acquire (a : Addr) (w : World) : (callFunc 82 #[.pointer (some a)]).run Try.prog w = .ok (.value (.tuple #[])) w := run_call_marked Try.func82 (by kernel_rfl) (by kernel_rfl) (by kernel_rfl) .acquire (by kernel_rfl) a w
theorem releaseMerge (a : Addr) (w : World) : (callFunc 84 #[.pointer (some a)]).run Try.prog w = .ok (.value (.tuple #[])) w := run_call_marked Try.func84 (by kernel_rfl) (by kernel_rfl) (by kernel_rfl) .releaseMerge (by kernel_rfl) a w
set_option maxHeartbeats 800000 in
theorem store_deferred (a : Addr) (x : Value) (u : FrameMode) (w : World) (hc : w.cell? a = some x) (hz : w.frozen? a = false) :
    CallsD Try.prog 71 #[.pointer (some a), .bool true] u w fun e u' w' => u' = u ∧ (e = .returned (.tuple #[]) ∧ w' = w.drew.setCell a (.int .u32 1)) := by
  have hc' : w.drew.cell? a = some x := by go_simp
  have hz' : w.drew.frozen? a = false := by go_simp
  have hst := run_call_store (P := Try.prog) Try.func77 (by kernel_rfl) (by kernel_rfl) (by kernel_rfl) (by kernel_rfl) (k := .u32) (y := 1) hc' hz'
  go_enter_d Try.func71, Try.ntmps71
  go_wp2
  go_region_calls
  all_goals (go_end0; exact ⟨rfl, rfl⟩)
set_option maxRecDepth 100000 in
set_option maxHeartbeats 1600000 in
theorem unlock_deferred (a : Addr) (u : FrameMode) (w : World) (hc : w.cell? a = some (.int .i32 1)) (hz : w.frozen? a = false) :
    CallsD Try.prog 70 #[.pointer (some a)] u w fun e u' w' => u' = u ∧ (e = .returned (.tuple #[]) ∧ w' = w.setCell a (.int .i32 0)) := by
  have hd := disable
  have he := enable
  have hr := releaseMerge
  have hadd := run_call_add (P := Try.prog) Try.func85 (by kernel_rfl) (by kernel_rfl) (by kernel_rfl) .i32 (by kernel_rfl) (y := -1) (s := 0) hc hz (by simp [go_sem]; rfl)
  have hcv := run_convert_to_unsafe (P := Try.prog) (src := 122) (dst := 126) Try.underlying122 Try.underlying126 (by kernel_rfl) hc
  go_enter_d Try.func70, Try.ntmps70
  go_wp2
  go_end0
  go_wp2
  go_end0
  exact ⟨rfl, rfl⟩
set_option maxRecDepth 100000 in
set_option maxHeartbeats 1600000 in
theorem lock_free (a : Addr) (w : World) (hc : w.cell? a = some (.int .i32 0)) (hz : w.frozen? a = false) :
    Calls Try.prog 69 #[.pointer (some a)] w fun e w' => e = .returned (.tuple #[]) ∧ w' = w.setCell a (.int .i32 1) := by
  have hd := disable
  have he := enable
  have ha := acquire
  have hcas := run_call_cas_hit (P := Try.prog) Try.func80 (by kernel_rfl) (by kernel_rfl) (by kernel_rfl) .i32 (by kernel_rfl) (y := 1) hc hz
  have hc' : (w.setCell a (.int .i32 1)).cell? a = some (.int .i32 1) := World.cell?_setCell_same w a _ hc
  have hcv := run_convert_to_unsafe (P := Try.prog) (src := 122) (dst := 126) Try.underlying122 Try.underlying126 (by kernel_rfl) hc'
  go_enter Try.func69, Try.ntmps69
  go_wp2
  first | go_end0 | (simp only [Exit.inBlock, Exit.then]; refine bodyPost_ret (results_none rfl _ _ _) rfl ?_) | refine bodyPost_ret (results_none rfl _ _ _) rfl ?_
  go_wp2
  go_end0
  exact ⟨rfl, rfl⟩
abbrev fillV (b : Nat) : Value := .func (.func 45) #[.pointer (some ⟨b, 0, none⟩)] #[]
set_option maxRecDepth 100000 in
set_option maxHeartbeats 1600000 in
theorem slow_any (b : Nat) (r : Int) (tbl : List Nat) (w : World) (h : SB b 0 0 tbl r w) :
    Calls Try.prog 60 #[.pointer (some ⟨b, 0, none⟩), fillV b] w fun e w' => e = .returned (.tuple #[]) ∧ SB b 1 0 TT r w' ∧ w.grownBy w' (some b) := by
  have h1 := h.s1 1
  have hl := run_call_load (P := Try.prog) Try.func68 (by kernel_rfl) (by kernel_rfl) (by kernel_rfl) .u32 (by kernel_rfl) h1.c0
  have hnot : ∀ (x : Bool) (w : World), (Op.unary .not (.bool x)).run Try.prog w = .ok (.bool (!x)) w := fun _ _ => rfl
  have HLk := Lib.hid (lock_free ⟨b, 1, none⟩ w h.c1 (h.fz 1))
  have HF := Lib.hid (fill_any b 0 1 r tbl _ h1)
  have HG := Lib.hid (gset w b 1 (.int .i32 1))
  clear h h1
  go_enter_defers Try.func60, Try.ntmps60
  go_wp2_with (first
    | (go_at_call 69; refine HLk.out.mono ?_; rintro e w' ⟨rfl, rfl⟩)
    | (go_at_call 59; go_in)
    | (go_at_call 45; refine HF.out.mono ?_; rintro e w1 ⟨rfl, hs1, hg1⟩; (have HS1 := Lib.hid hs1); (have HG1 := Lib.hid hg1); clear hs1 hg1))
  refine leaves_cons (f := 71) (args := #[.pointer (some ⟨b, 0, none⟩), .bool true]) (by simp) (by simp [go_sem]) ?_
  refine (store_deferred ⟨b, 0, none⟩ (.int .u32 0) .returning _ HS1.out.c0 (HS1.out.fz 0)).mono ?_
  rintro e u' w'' ⟨rfl, rfl, rfl⟩
  have HS2 : SB b 1 1 TT r (w1.drew.setCell ⟨b, 0, none⟩ (.int .u32 1)) := (HS1.out.keep (w1 := w1.drew) rfl).s0 1
  refine leaves_cons (f := 70) (args := #[.pointer (some ⟨b, 1, none⟩)]) (by simp [settle]) (by simp [go_sem]) ?_
  refine (unlock_deferred ⟨b, 1, none⟩ _ _ HS2.c1 (HS2.fz 1)).mono ?_
  rintro e u' w'' ⟨rfl, rfl, rfl⟩
  have HS3 := HS2.s1 0
  have HG3 := ((HG.out.trans HG1.out).trans (gdrew w1 _)).trans ((gset w1.drew b 0 (.int .u32 1)).trans (gset _ b 1 (.int .i32 0)))
  simp [Leaves, settle, results, Try.results60]
  exact ⟨HS3, HG3⟩
set_option maxRecDepth 100000 in
set_option maxHeartbeats 1600000 in
theorem do_first (b : Nat) (r : Int) (tbl : List Nat) (w : World) (h : SB b 0 0 tbl r w) :
    Calls Try.prog 44 #[.pointer (some ⟨b, 0, none⟩), fillV b] w fun e w' => e = .returned (.tuple #[]) ∧ SB b 1 0 TT r w' ∧ w.grownBy w' (some b) := by
  have hl := run_call_load (P := Try.prog) Try.func68 (by kernel_rfl) (by kernel_rfl) (by kernel_rfl) .u32 (by kernel_rfl) h.c0
  have hnot : ∀ (x : Bool) (w : World), (Op.unary .not (.bool x)).run Try.prog w = .ok (.bool (!x)) w := fun _ _ => rfl
  have HS := Lib.hid (slow_any b r tbl w h)
  clear h
  go_enter Try.func44, Try.ntmps44
  go_wp2_with (first | (go_at_call 60; refine HS.out.mono ?_; rintro e w' ⟨rfl, hs, hg⟩; (have HS1 := Lib.hid hs); (have HG1 := Lib.hid hg); clear hs hg) | (go_at_call 59; go_in))
  go_end0
  exact ⟨rfl, HS1.out, HG1.out⟩
set_option maxRecDepth 100000 in
set_option maxHeartbeats 1600000 in
theorem do_done (b : Nat) (r st : Int) (tbl : List Nat) (fv : Value) (w : World) (h : SB b 1 st tbl r w) :
    Calls Try.prog 44 #[.pointer (some ⟨b, 0, none⟩), fv] w fun e w' => e = .returned (.tuple #[]) ∧ w' = w := by
  have hl := run_call_load (P := Try.prog) Try.func68 (by kernel_rfl) (by kernel_rfl) (by kernel_rfl) .u32 (by kernel_rfl) h.c0
  have hnot : ∀ (x : Bool) (w : World), (Op.unary .not (.bool x)).run Try.prog w = .ok (.bool (!x)) w := fun _ _ => rfl
  clear h
  go_enter Try.func44, Try.ntmps44
  go_wp2_with (first | (go_at_call 59; go_in))
  go_end0
  exact ⟨rfl, rfl⟩
end Go.Proofs.Ytagfplcafeblbaa.C
