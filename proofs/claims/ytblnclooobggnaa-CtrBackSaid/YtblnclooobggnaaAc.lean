/-
  aes: a cipher in memory; sync.Once, one goroutine (the pointers' types by number).
-/
import Derived.Test.YtblnclooobggnaaAb
import Derived.Defers
import Derived.Laws.Pointers
import Derived.Laws.LoneSync
import Derived.RegionTactic
import Derived.RegionCalls
import Derived.Tactics2
import Derived.Deep.MidRow
namespace Go.Proofs.Ytblnclooobggnaa.A
open Go.RowKit Go.Proofs.Ytblnclooobggnaa.L Go.Proofs.Ytblnclooobggnaa.N Go.Proofs.YtblnclooobggnaaW.PrintWords

abbrev tC : TypeId := 59
def bys (l : List Nat) : List Value := l.map (fun x : Nat => Value.int .u8 (x : Int))
theorem bys_len (l : List Nat) : (bys l).length = l.length := by simp [bys]
theorem bys_app (a b : List Nat) : bys (a ++ b) = bys a ++ bys b := by simp [bys]
theorem bys_get {l : List Nat} {i : Nat} (h : i < l.length) : (bys l)[i]? = some (.int .u8 (l.getD i 0 : Nat)) := by
  unfold bys
  rw [List.getElem?_map, List.getD_eq_getElem?_getD, List.getElem?_eq_getElem h]
  rfl
/-- a cipher's cells: once, whether it was made, all bytes, how many turns -/
def CC (dn st : Int) (made : Bool) (M : List Nat) (tn : Int) : List Value := [.int .u32 dn, .int .i32 st, .int .u32 0, .bool made] ++ (bys M ++ [.int .i64 tn])
structure CB (b : Nat) (dn st : Int) (made : Bool) (M : List Nat) (tn : Int) (w : World) : Prop where
  blk : w.heap[b]? = some (.cells (CC dn st made M tn).toArray tC (0, 0))
  len : M.length = 704
section
variable {b : Nat} {dn st tn : Int} {made : Bool} {M : List Nat} {w w1 : World}
theorem CB.lt (h : CB b dn st made M tn w) : b < w.heap.size := blk_lt h.blk
theorem CB.c0 (h : CB b dn st made M tn w) : w.cell? ⟨b, 0, none⟩ = some (.int .u32 dn) := by rw [blk_cell h.blk]; rfl
theorem CB.c1 (h : CB b dn st made M tn w) : w.cell? ⟨b, 1, none⟩ = some (.int .i32 st) := by rw [blk_cell h.blk]; rfl
theorem CB.c3 (h : CB b dn st made M tn w) : w.cell? ⟨b, 3, none⟩ = some (.bool made) := by rw [blk_cell h.blk]; rfl
theorem CC_get (hl : M.length = 704) {i : Nat} (hi : i < 704) : (CC dn st made M tn)[4 + i]? = some (.int .u8 (M.getD i 0 : Nat)) := by
  unfold CC
  rw [List.getElem?_append_right (by simp), show 4 + i - [Value.int .u32 dn, .int .i32 st, .int .u32 0, .bool made].length = i from by show 4 + i - 4 = i; omega, List.getElem?_append_left (by rw [bys_len]; omega), bys_get (by omega)]
theorem CB.cm (h : CB b dn st made M tn w) {i : Nat} (hi : i < 704) : w.cell? ⟨b, 4 + i, none⟩ = some (.int .u8 (M.getD i 0 : Nat)) := by
  rw [blk_cell h.blk, List.getElem?_toArray, CC_get h.len hi]
theorem CB.ct (h : CB b dn st made M tn w) : w.cell? ⟨b, 708, none⟩ = some (.int .i64 tn) := by
  have hl := h.len
  rw [blk_cell h.blk, List.getElem?_toArray]
  unfold CC
  rw [List.getElem?_append_right (by simp), show 708 - [Value.int .u32 dn, .int .i32 st, .int .u32 0, .bool made].length = 704 from rfl, List.getElem?_append_right (by rw [bys_len]; omega), bys_len, hl]
  rfl
theorem CB.fz (h : CB b dn st made M tn w) (i : Nat) : w.frozen? ⟨b, i, none⟩ = false := blk_frozen h.blk i
theorem CB.set (h : CB b dn st made M tn w) (i : Nat) (u : Value) : (w.setCell ⟨b, i, none⟩ u).heap[b]? = some (.cells ((CC dn st made M tn).set i u).toArray tC (0, 0)) := by
  rw [blk_set h.blk i u]
  simp
theorem CB.s0 (h : CB b dn st made M tn w) (x : Int) : CB b x st made M tn (w.setCell ⟨b, 0, none⟩ (.int .u32 x)) := ⟨h.set 0 _, h.len⟩
theorem CB.s1 (h : CB b dn st made M tn w) (x : Int) : CB b dn x made M tn (w.setCell ⟨b, 1, none⟩ (.int .i32 x)) := ⟨h.set 1 _, h.len⟩
theorem CC_set (hl : M.length = 704) {i : Nat} (hi : i < 704) (x : Nat) : (CC dn st made M tn).set (4 + i) (.int .u8 (x : Int)) = CC dn st made (M.set i x) tn := by
  unfold CC
  rw [List.set_append_right _ _ (by simp), show 4 + i - [Value.int .u32 dn, .int .i32 st, .int .u32 0, .bool made].length = i from by show 4 + i - 4 = i; omega, List.set_append_left _ _ (by rw [bys_len]; omega)]
  unfold bys
  rw [List.map_set]
theorem CB.sm (h : CB b dn st made M tn w) {i : Nat} (hi : i < 704) (x : Nat) : CB b dn st made (M.set i x) tn (w.setCell ⟨b, 4 + i, none⟩ (.int .u8 (x : Int))) :=
  ⟨by rw [h.set, CC_set h.len hi], by rw [List.length_set]; exact h.len⟩
theorem CB.stt (h : CB b dn st made M tn w) (x : Int) : CB b dn st made M x (w.setCell ⟨b, 708, none⟩ (.int .i64 x)) := by
  refine ⟨?_, h.len⟩
  have hl := h.len
  rw [h.set]
  unfold CC
  rw [List.set_append_right _ _ (by simp), show 708 - [Value.int .u32 dn, .int .i32 st, .int .u32 0, .bool made].length = 704 from rfl, List.set_append_right _ _ (by rw [bys_len]; omega), bys_len, hl]
  rfl
theorem CB.keep (h : CB b dn st made M tn w) (hm : w1.heap[b]? = w.heap[b]?) : CB b dn st made M tn w1 := ⟨hm.trans h.blk, h.len⟩
theorem CB.below (h : CB b dn st made M tn w) (hb : Below w.heap.size w w1) : CB b dn st made M tn w1 := h.keep (hb.block b h.lt)
theorem CB.drew (h : CB b dn st made M tn w) : CB b dn st made M tn w.drew := h.keep rfl
theorem CB.grown {g : Nat} (h : CB b dn st made M tn w) (hg : w.grownBy w1 (some g)) (hne : b ≠ g) : CB b dn st made M tn w1 := h.keep (hg.block b h.lt (fun e => hne (by injection e)))
/-- several bytes at once -/
theorem CB.sp (h : CB b dn st made M tn w) {o : Nat} {cs : List Nat} (ho : o + cs.length ≤ 704) : CB b dn st made (splice M o cs) tn (w.setCells b (4 + o) (bys cs)) := by
  have hl := h.len
  refine ⟨?_, ?_⟩
  · rw [setCells_blk b tC (bys cs) (4 + o) (CC dn st made M tn) w h.blk (by rw [bys_len]; unfold CC; simp only [List.length_append, List.length_cons, List.length_nil, bys_len, hl]; omega)]
    congr 2
    unfold CC
    unfold splice
    rw [bys_len]
    have e4 : [Value.int .u32 dn, .int .i32 st, .int .u32 0, .bool made].length = 4 := rfl
    rw [List.take_append, List.drop_append, e4, List.take_of_length_le (by rw [e4]; omega), List.drop_of_length_le (by rw [e4]; omega), show 4 + o - 4 = o from by omega, show 4 + o + cs.length - 4 = o + cs.length from by omega, List.take_append_of_le_length (by rw [bys_len]; omega), List.drop_append_of_le_length (by rw [bys_len]; omega)]
    rw [bys_app, bys_app]
    unfold bys
    rw [List.map_take, List.map_drop]
    simp
  · unfold splice
    simp only [List.length_append, List.length_take, List.length_drop]
    omega
theorem CB.there (h : CB b dn st made M tn w) {o n : Nat} (ho : o + n ≤ 704) : w.there b (4 + o) n := by
  have hl := h.len
  exact there_blk h.blk (by unfold CC; simp only [List.length_append, List.length_cons, List.length_nil, bys_len, hl]; omega)
theorem CB.range (h : CB b dn st made M tn w) {o : Nat} {cs : List Nat} (hc : ∀ j, j < cs.length → M.getD (o + j) 0 = cs.getD j 0) (ho : o + cs.length ≤ 704) : w.rangeAt b (4 + o) (bys cs) := by
  refine range_blk h.blk (fun j v hj => ?_)
  have hjl : j < cs.length := by
    have := (List.getElem?_eq_some_iff.1 hj).1
    rwa [bys_len] at this
  rw [bys_get hjl] at hj
  rw [← hj, show 4 + o + j = 4 + (o + j) from by omega, CC_get h.len (by omega), hc j hjl]
end
theorem gset (w : World) (b i : Nat) (v : Value) : w.grownBy (w.setCell ⟨b, i, none⟩ v) (some b) := grown_set w b i v
theorem gdrew (w : World) (row : Option Nat) : w.grownBy w.drew row := grown_drew w row
/-! sync.Once, one goroutine -/
theorem disable (w : World) : (callFunc 100 #[]).run Try.prog w = .ok (.value (.tuple #[])) w := run_call_mark0 Try.func100 (by kernel_rfl) (by kernel_rfl) (by kernel_rfl) .disable (by kernel_rfl) w
theorem enable (w : World) : (callFunc 102 #[]).run Try.prog w = .ok (.value (.tuple #[])) w := run_call_mark0 Try.func102 (by kernel_rfl) (by kernel_rfl) (by kernel_rfl) .enable (by kernel_rfl) w
theorem acquire (a : Addr) (w : World) : (callFunc 103 #[.pointer (some a)]).run Try.prog w = .ok (.value (.tuple #[])) w := run_call_marked Try.func103 (by kernel_rfl) (by kernel_rfl) (by kernel_rfl) .acquire (by kernel_rfl) a w
theorem releaseMerge (a : Addr) (w : World) : (callFunc 105 #[.pointer (some a)]).run Try.prog w = .ok (.value (.tuple #[])) w := run_call_marked Try.func105 (by kernel_rfl) (by kernel_rfl) (by kernel_rfl) .releaseMerge (by kernel_rfl) a w
set_option maxHeartbeats 800000 in
theorem store_deferred (a : Addr) (x : Value) (u : FrameMode) (w : World) (hc : w.cell? a = some x) (hz : w.frozen? a = false) :
    CallsD Try.prog 85 #[.pointer (some a), .bool true] u w fun e u' w' => u' = u ∧ (e = .returned (.tuple #[]) ∧ w' = w.drew.setCell a (.int .u32 1)) := by
  have hc' : w.drew.cell? a = some x := by go_simp
  have hz' : w.drew.frozen? a = false := by go_simp
  have hst := run_call_store (P := Try.prog) Try.func94 (by kernel_rfl) (by kernel_rfl) (by kernel_rfl) (by kernel_rfl) (k := .u32) (y := 1) hc' hz'
  go_enter_d Try.func85, Try.ntmps85
  go_wp2
  go_region_calls
  all_goals (go_end0; exact ⟨rfl, rfl⟩)
set_option maxRecDepth 100000 in
set_option maxHeartbeats 1600000 in
theorem unlock_deferred (a : Addr) (u : FrameMode) (w : World) (hc : w.cell? a = some (.int .i32 1)) (hz : w.frozen? a = false) :
    CallsD Try.prog 84 #[.pointer (some a)] u w fun e u' w' => u' = u ∧ (e = .returned (.tuple #[]) ∧ w' = w.setCell a (.int .i32 0)) := by
  have hd := disable
  have he := enable
  have hr := releaseMerge
  have hadd := run_call_add (P := Try.prog) Try.func106 (by kernel_rfl) (by kernel_rfl) (by kernel_rfl) .i32 (by kernel_rfl) (y := -1) (s := 0) hc hz (by simp [go_sem]; rfl)
  have hcv := run_convert_to_unsafe (P := Try.prog) (src := 167) (dst := 171) Try.underlying167 Try.underlying171 (by kernel_rfl) hc
  go_enter_d Try.func84, Try.ntmps84
  go_wp2
  go_end0
  go_wp2
  go_end0
  exact ⟨rfl, rfl⟩
set_option maxRecDepth 100000 in
set_option maxHeartbeats 1600000 in
theorem lock_free (a : Addr) (w : World) (hc : w.cell? a = some (.int .i32 0)) (hz : w.frozen? a = false) :
    Calls Try.prog 83 #[.pointer (some a)] w fun e w' => e = .returned (.tuple #[]) ∧ w' = w.setCell a (.int .i32 1) := by
  have hd := disable
  have he := enable
  have ha := acquire
  have hcas := run_call_cas_hit (P := Try.prog) Try.func101 (by kernel_rfl) (by kernel_rfl) (by kernel_rfl) .i32 (by kernel_rfl) (y := 1) hc hz
  have hc' : (w.setCell a (.int .i32 1)).cell? a = some (.int .i32 1) := World.cell?_setCell_same w a _ hc
  have hcv := run_convert_to_unsafe (P := Try.prog) (src := 167) (dst := 171) Try.underlying167 Try.underlying171 (by kernel_rfl) hc'
  go_enter Try.func83, Try.ntmps83
  go_wp2
  first | go_end0 | (simp only [Exit.inBlock, Exit.then]; refine bodyPost_ret (results_none rfl _ _ _) rfl ?_) | refine bodyPost_ret (results_none rfl _ _ _) rfl ?_
  go_wp2
  go_end0
  exact ⟨rfl, rfl⟩
end Go.Proofs.Ytblnclooobggnaa.A
