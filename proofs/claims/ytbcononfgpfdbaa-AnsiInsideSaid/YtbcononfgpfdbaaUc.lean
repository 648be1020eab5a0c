/-
  ansi: enter, inter, end.
-/
import Derived.Test.YtbcononfgpfdbaaUb
import Derived.Test.YtbcononfgpfdbaaQf
namespace Go.Proofs.Ytbcononfgpfdbaa.An
open Go.RowKit Go.Proofs.Ytbcononfgpfdbaa.L Go.Proofs.Ytbcononfgpfdbaa.N Go.Proofs.YtbcononfgpfdbaaW.PrintWords

/-- cells stored one behind the other -/
def sets (w : World) (b : Nat) : List (Nat × Value) → World
  | [] => w
  | x :: l => sets (w.setCell ⟨b, x.1, none⟩ x.2) b l
theorem sets_blk {b : Nat} {t : TypeId} : ∀ (l : List (Nat × Value)) (w : World) (cs : Array Value), w.heap[b]? = some (.cells cs t (0, 0)) → (sets w b l).heap[b]? = some (.cells (l.foldl (fun a x => a.setIfInBounds x.1 x.2) cs) t (0, 0)) ∧ w.grownBy (sets w b l) (some b)
  | [], w, cs, h => ⟨h, World.grownBy.refl _ _⟩
  | x :: l, w, cs, h => by
    obtain ⟨h1, h2⟩ := sets_blk l (w.setCell ⟨b, x.1, none⟩ x.2) _ (blk_set h x.1 x.2)
    exact ⟨h1, (grown_set w b x.1 x.2).trans h2⟩
set_option maxRecDepth 100000 in
set_option maxHeartbeats 3200000 in
theorem enter_raw (b st : Nat) (v1 v2 v3 v4 v5 v6 v7 v8 v9 v10 v11 v12 vo : Value) (w : World) (h : w.heap[b]? = some (.cells #[.bool true, v1, v2, v3, v4, v5, v6, v7, v8, v9, v10, v11, v12, vo] tP (0, 0))) :
    Calls Try.prog 63 #[.pointer (some ⟨b, 0, none⟩), .int .i64 (st : Int)] w fun e w' => e = .returned (.tuple #[]) ∧ w'.heap[b]? = some (.cells (PC (enS st) (.slice none 0 0) (.slice none 0 0) vo) tP (0, 0)) ∧ w.grownBy w' (some b) := by
  have s0 : (w.setCell ⟨b, 1, none⟩ (.int .i64 (st : Int))).heap[b]? = some (.cells #[.bool true, .int .i64 (st : Int), v2, v3, v4, v5, v6, v7, v8, v9, v10, v11, v12, vo] tP (0, 0)) := blk_set h 1 (.int .i64 (st : Int))
  have s1 : ((w.setCell ⟨b, 1, none⟩ (.int .i64 (st : Int))).setCell ⟨b, 2, none⟩ (.int .i64 0)).heap[b]? = some (.cells #[.bool true, .int .i64 (st : Int), .int .i64 0, v3, v4, v5, v6, v7, v8, v9, v10, v11, v12, vo] tP (0, 0)) := blk_set s0 2 (.int .i64 0)
  have s2 : (((w.setCell ⟨b, 1, none⟩ (.int .i64 (st : Int))).setCell ⟨b, 2, none⟩ (.int .i64 0)).setCell ⟨b, 3, none⟩ (.int .i32 0)).heap[b]? = some (.cells #[.bool true, .int .i64 (st : Int), .int .i64 0, .int .i32 0, v4, v5, v6, v7, v8, v9, v10, v11, v12, vo] tP (0, 0)) := blk_set s1 3 (.int .i32 0)
  have s3 : ((((w.setCell ⟨b, 1, none⟩ (.int .i64 (st : Int))).setCell ⟨b, 2, none⟩ (.int .i64 0)).setCell ⟨b, 3, none⟩ (.int .i32 0)).setCell ⟨b, 4, none⟩ (.int .u8 0)).heap[b]? = some (.cells #[.bool true, .int .i64 (st : Int), .int .i64 0, .int .i32 0, .int .u8 0, v5, v6, v7, v8, v9, v10, v11, v12, vo] tP (0, 0)) := blk_set s2 4 (.int .u8 0)
  have s4 : (((((w.setCell ⟨b, 1, none⟩ (.int .i64 (st : Int))).setCell ⟨b, 2, none⟩ (.int .i64 0)).setCell ⟨b, 3, none⟩ (.int .i32 0)).setCell ⟨b, 4, none⟩ (.int .u8 0)).setCell ⟨b, 5, none⟩ (.int .u8 0)).heap[b]? = some (.cells #[.bool true, .int .i64 (st : Int), .int .i64 0, .int .i32 0, .int .u8 0, .int .u8 0, v6, v7, v8, v9, v10, v11, v12, vo] tP (0, 0)) := blk_set s3 5 (.int .u8 0)
  have s5 : ((((((w.setCell ⟨b, 1, none⟩ (.int .i64 (st : Int))).setCell ⟨b, 2, none⟩ (.int .i64 0)).setCell ⟨b, 3, none⟩ (.int .i32 0)).setCell ⟨b, 4, none⟩ (.int .u8 0)).setCell ⟨b, 5, none⟩ (.int .u8 0)).setCell ⟨b, 6, none⟩ (.int .u8 0)).heap[b]? = some (.cells #[.bool true, .int .i64 (st : Int), .int .i64 0, .int .i32 0, .int .u8 0, .int .u8 0, .int .u8 0, v7, v8, v9, v10, v11, v12, vo] tP (0, 0)) := blk_set s4 6 (.int .u8 0)
  have s6 : (((((((w.setCell ⟨b, 1, none⟩ (.int .i64 (st : Int))).setCell ⟨b, 2, none⟩ (.int .i64 0)).setCell ⟨b, 3, none⟩ (.int .i32 0)).setCell ⟨b, 4, none⟩ (.int .u8 0)).setCell ⟨b, 5, none⟩ (.int .u8 0)).setCell ⟨b, 6, none⟩ (.int .u8 0)).setCell ⟨b, 7, none⟩ (.slice none 0 0)).heap[b]? = some (.cells #[.bool true, .int .i64 (st : Int), .int .i64 0, .int .i32 0, .int .u8 0, .int .u8 0, .int .u8 0, .slice none 0 0, v8, v9, v10, v11, v12, vo] tP (0, 0)) := blk_set s5 7 (.slice none 0 0)
  have s7 : ((((((((w.setCell ⟨b, 1, none⟩ (.int .i64 (st : Int))).setCell ⟨b, 2, none⟩ (.int .i64 0)).setCell ⟨b, 3, none⟩ (.int .i32 0)).setCell ⟨b, 4, none⟩ (.int .u8 0)).setCell ⟨b, 5, none⟩ (.int .u8 0)).setCell ⟨b, 6, none⟩ (.int .u8 0)).setCell ⟨b, 7, none⟩ (.slice none 0 0)).setCell ⟨b, 8, none⟩ (.string ⟨#[]⟩)).heap[b]? = some (.cells #[.bool true, .int .i64 (st : Int), .int .i64 0, .int .i32 0, .int .u8 0, .int .u8 0, .int .u8 0, .slice none 0 0, .string ⟨#[]⟩, v9, v10, v11, v12, vo] tP (0, 0)) := blk_set s6 8 (.string ⟨#[]⟩)
  have s8 : (((((((((w.setCell ⟨b, 1, none⟩ (.int .i64 (st : Int))).setCell ⟨b, 2, none⟩ (.int .i64 0)).setCell ⟨b, 3, none⟩ (.int .i32 0)).setCell ⟨b, 4, none⟩ (.int .u8 0)).setCell ⟨b, 5, none⟩ (.int .u8 0)).setCell ⟨b, 6, none⟩ (.int .u8 0)).setCell ⟨b, 7, none⟩ (.slice none 0 0)).setCell ⟨b, 8, none⟩ (.string ⟨#[]⟩)).setCell ⟨b, 9, none⟩ (.bool false)).heap[b]? = some (.cells #[.bool true, .int .i64 (st : Int), .int .i64 0, .int .i32 0, .int .u8 0, .int .u8 0, .int .u8 0, .slice none 0 0, .string ⟨#[]⟩, .bool false, v10, v11, v12, vo] tP (0, 0)) := blk_set s7 9 (.bool false)
  have s9 : ((((((((((w.setCell ⟨b, 1, none⟩ (.int .i64 (st : Int))).setCell ⟨b, 2, none⟩ (.int .i64 0)).setCell ⟨b, 3, none⟩ (.int .i32 0)).setCell ⟨b, 4, none⟩ (.int .u8 0)).setCell ⟨b, 5, none⟩ (.int .u8 0)).setCell ⟨b, 6, none⟩ (.int .u8 0)).setCell ⟨b, 7, none⟩ (.slice none 0 0)).setCell ⟨b, 8, none⟩ (.string ⟨#[]⟩)).setCell ⟨b, 9, none⟩ (.bool false)).setCell ⟨b, 10, none⟩ (.bool false)).heap[b]? = some (.cells #[.bool true, .int .i64 (st : Int), .int .i64 0, .int .i32 0, .int .u8 0, .int .u8 0, .int .u8 0, .slice none 0 0, .string ⟨#[]⟩, .bool false, .bool false, v11, v12, vo] tP (0, 0)) := blk_set s8 10 (.bool false)
  have s10 : (((((((((((w.setCell ⟨b, 1, none⟩ (.int .i64 (st : Int))).setCell ⟨b, 2, none⟩ (.int .i64 0)).setCell ⟨b, 3, none⟩ (.int .i32 0)).setCell ⟨b, 4, none⟩ (.int .u8 0)).setCell ⟨b, 5, none⟩ (.int .u8 0)).setCell ⟨b, 6, none⟩ (.int .u8 0)).setCell ⟨b, 7, none⟩ (.slice none 0 0)).setCell ⟨b, 8, none⟩ (.string ⟨#[]⟩)).setCell ⟨b, 9, none⟩ (.bool false)).setCell ⟨b, 10, none⟩ (.bool false)).setCell ⟨b, 11, none⟩ (.bool false)).heap[b]? = some (.cells #[.bool true, .int .i64 (st : Int), .int .i64 0, .int .i32 0, .int .u8 0, .int .u8 0, .int .u8 0, .slice none 0 0, .string ⟨#[]⟩, .bool false, .bool false, .bool false, v12, vo] tP (0, 0)) := blk_set s9 11 (.bool false)
  have s11 : ((((((((((((w.setCell ⟨b, 1, none⟩ (.int .i64 (st : Int))).setCell ⟨b, 2, none⟩ (.int .i64 0)).setCell ⟨b, 3, none⟩ (.int .i32 0)).setCell ⟨b, 4, none⟩ (.int .u8 0)).setCell ⟨b, 5, none⟩ (.int .u8 0)).setCell ⟨b, 6, none⟩ (.int .u8 0)).setCell ⟨b, 7, none⟩ (.slice none 0 0)).setCell ⟨b, 8, none⟩ (.string ⟨#[]⟩)).setCell ⟨b, 9, none⟩ (.bool false)).setCell ⟨b, 10, none⟩ (.bool false)).setCell ⟨b, 11, none⟩ (.bool false)).setCell ⟨b, 12, none⟩ (.slice none 0 0)).heap[b]? = some (.cells #[.bool true, .int .i64 (st : Int), .int .i64 0, .int .i32 0, .int .u8 0, .int .u8 0, .int .u8 0, .slice none 0 0, .string ⟨#[]⟩, .bool false, .bool false, .bool false, .slice none 0 0, vo] tP (0, 0)) := blk_set s10 12 (.slice none 0 0)
  have hx : ((((((((((((w.setCell ⟨b, 1, none⟩ (.int .i64 (st : Int))).setCell ⟨b, 2, none⟩ (.int .i64 0)).setCell ⟨b, 3, none⟩ (.int .i32 0)).setCell ⟨b, 4, none⟩ (.int .u8 0)).setCell ⟨b, 5, none⟩ (.int .u8 0)).setCell ⟨b, 6, none⟩ (.int .u8 0)).setCell ⟨b, 7, none⟩ (.slice none 0 0)).setCell ⟨b, 8, none⟩ (.string ⟨#[]⟩)).setCell ⟨b, 9, none⟩ (.bool false)).setCell ⟨b, 10, none⟩ (.bool false)).setCell ⟨b, 11, none⟩ (.bool false)).setCell ⟨b, 12, none⟩ (.slice none 0 0)).heap[b]? = some (.cells #[.bool true, .int .i64 (st : Int), .int .i64 0, .int .i32 0, .int .u8 0, .int .u8 0, .int .u8 0, .slice none 0 0, .string ⟨#[]⟩, .bool false, .bool false, .bool false, .slice none 0 0, vo] tP (0, 0)) ∧ w.grownBy ((((((((((((w.setCell ⟨b, 1, none⟩ (.int .i64 (st : Int))).setCell ⟨b, 2, none⟩ (.int .i64 0)).setCell ⟨b, 3, none⟩ (.int .i32 0)).setCell ⟨b, 4, none⟩ (.int .u8 0)).setCell ⟨b, 5, none⟩ (.int .u8 0)).setCell ⟨b, 6, none⟩ (.int .u8 0)).setCell ⟨b, 7, none⟩ (.slice none 0 0)).setCell ⟨b, 8, none⟩ (.string ⟨#[]⟩)).setCell ⟨b, 9, none⟩ (.bool false)).setCell ⟨b, 10, none⟩ (.bool false)).setCell ⟨b, 11, none⟩ (.bool false)).setCell ⟨b, 12, none⟩ (.slice none 0 0)) (some b) := ⟨s11, ((((((((((((grown_set w b 1 (.int .i64 (st : Int))).trans (grown_set _ b 2 (.int .i64 0))).trans (grown_set _ b 3 (.int .i32 0))).trans (grown_set _ b 4 (.int .u8 0))).trans (grown_set _ b 5 (.int .u8 0))).trans (grown_set _ b 6 (.int .u8 0))).trans (grown_set _ b 7 (.slice none 0 0))).trans (grown_set _ b 8 (.string ⟨#[]⟩))).trans (grown_set _ b 9 (.bool false))).trans (grown_set _ b 10 (.bool false))).trans (grown_set _ b 11 (.bool false))).trans (grown_set _ b 12 (.slice none 0 0)))⟩
  have HX := Lib.hid hx
  have fz := blk_frozen h
  have c0 : w.cell? ⟨b, 0, none⟩ = some (.bool true) := by rw [blk_cell h]; rfl
  have c1 : w.cell? ⟨b, 1, none⟩ = some (v1) := by rw [blk_cell h]; rfl
  have c2 : w.cell? ⟨b, 2, none⟩ = some (v2) := by rw [blk_cell h]; rfl
  have c3 : w.cell? ⟨b, 3, none⟩ = some (v3) := by rw [blk_cell h]; rfl
  have c4 : w.cell? ⟨b, 4, none⟩ = some (v4) := by rw [blk_cell h]; rfl
  have c5 : w.cell? ⟨b, 5, none⟩ = some (v5) := by rw [blk_cell h]; rfl
  have c6 : w.cell? ⟨b, 6, none⟩ = some (v6) := by rw [blk_cell h]; rfl
  have c7 : w.cell? ⟨b, 7, none⟩ = some (v7) := by rw [blk_cell h]; rfl
  have c8 : w.cell? ⟨b, 8, none⟩ = some (v8) := by rw [blk_cell h]; rfl
  have c9 : w.cell? ⟨b, 9, none⟩ = some (v9) := by rw [blk_cell h]; rfl
  have c10 : w.cell? ⟨b, 10, none⟩ = some (v10) := by rw [blk_cell h]; rfl
  have c11 : w.cell? ⟨b, 11, none⟩ = some (v11) := by rw [blk_cell h]; rfl
  have c12 : w.cell? ⟨b, 12, none⟩ = some (v12) := by rw [blk_cell h]; rfl
  have c13 : w.cell? ⟨b, 13, none⟩ = some (vo) := by rw [blk_cell h]; rfl
  clear h hx s0 s1 s2 s3 s4 s5 s6 s7 s8 s9 s10 s11
  go_enter Try.func63, Try.ntmps63
  go_wp2_with fail
  go_end0
  exact ⟨rfl, HX.out⟩
section
variable {t : ByteArray} {n0 b : Nat} {vp vt vo : Value} {S : St} {evs : List Ev} {w w' : World}
theorem PMt.lt (h : PMt t n0 b vp vt vo S evs w) : b < w.heap.size := blk_lt h.blk
theorem PMt.outR (h : PMt t n0 b vp vt vo S evs w) (hg : w.grownBy w' (some b)) : kE.R tE w' n0 (fun k => some k ≠ vp.ownBlock) vo evs :=
  Kd.R_mono (Kd.R_grown (Kd.R_types h.out h.blk (by intro q hq; simp [kE, Kd.pair, Kd.slice, Kd.string, Kd.int, Kd.scalar] at hq; rcases hq with rfl | rfl <;> decide)) hg (fun k hk he => hk.2 (by injection he))) (fun k hk => hk.1)
/-- the parser alone is written -/
theorem PMt.wr {t' : ByteArray} {S' : St} (h : PMt t n0 b vp vt vo S evs w) (hb : w'.heap[b]? = some (.cells (PCt t' S' vp vt vo) tP (0, 0))) (hg : w.grownBy w' (some b)) (h1 : S'.par = S.par) (h2 : S'.text = S.text) (hok : OK S') : PMt t' n0 b vp vt vo S' evs w' :=
  ⟨hb, by rw [h1]; exact R_obj h.par h.blk (by intro q hq; simp [Kd.int, Kd.scalar] at hq; subst hq; decide) hg, by rw [h2]; exact R_obj h.txt h.blk (by intro q hq; simp [Kd.int, Kd.scalar] at hq; subst hq; decide) hg, h.outR hg, h.ge, hok⟩
theorem PMt.below (h : PMt t n0 b vp vt vo S evs w) (hb : Below w.heap.size w w') : PMt t n0 b vp vt vo S evs w' := ⟨blk_below h.blk hb, Kd.R_below h.par hb, Kd.R_below h.txt hb, Kd.R_below h.out hb, h.ge, h.oks⟩
/-- a state begun -/
theorem PMt.en {st : Nat} (hst : st ≤ 3) (h : PMt t n0 b vp vt vo S evs w) (hb : w'.heap[b]? = some (.cells (PC (enS st) (.slice none 0 0) (.slice none 0 0) vo) tP (0, 0))) (hg : w.grownBy w' (some b)) : PM n0 b (.slice none 0 0) (.slice none 0 0) vo (enS st) evs w' :=
  ⟨hb, Kd.R_nil _ _ _ _ _, Kd.R_nil _ _ _ _ _, Kd.R_mono (h.outR hg) (fun _ _ => by simp [Value.ownBlock]), h.ge, OK_en hst⟩
end
set_option maxRecDepth 100000 in
set_option maxHeartbeats 3200000 in
theorem enter_any (n0 b st : Nat) (hst : st ≤ 3) (t : ByteArray) (vp vt vo : Value) (S : St) (evs : List Ev) (w : World) (h : PMt t n0 b vp vt vo S evs w) :
    Calls Try.prog 63 #[.pointer (some ⟨b, 0, none⟩), .int .i64 (st : Int)] w fun e w' => e = .returned (.tuple #[]) ∧ PM n0 b (.slice none 0 0) (.slice none 0 0) vo (enS st) evs w' ∧ TR b vp vt vo (.slice none 0 0) (.slice none 0 0) vo w w' :=
  (enter_raw b st _ _ _ _ _ _ _ _ _ _ _ _ vo w h.blk).mono fun _ _ ⟨he, hb, hg⟩ => ⟨he, PMt.en hst h hb hg, TR.obj hg (NO.nil _ _) (NO.nil _ _) (NO.self _ _)⟩
set_option maxRecDepth 100000 in
set_option maxHeartbeats 3200000 in
theorem inter_any (n0 b c : Nat) (vp vt vo : Value) (S : St) (evs : List Ev) (w : World) (h : PM n0 b vp vt vo S evs w) :
    Calls Try.prog 70 #[.pointer (some ⟨b, 0, none⟩), .int .u8 (c : Int)] w fun e w' => e = .returned (.tuple #[]) ∧ PM n0 b vp vt vo (inS S c) evs w' ∧ TR b vp vt vo vp vt vo w w' := by
  have HP := Lib.hid h
  have fz := blk_frozen h.blk
  have c5 : w.cell? ⟨b, 5, none⟩ = some (.int .u8 (S.it : Int)) := by rw [blk_cell h.blk]; rfl
  have c10 : w.cell? ⟨b, 10, none⟩ = some (.bool S.gone) := by rw [blk_cell h.blk]; rfl
  by_cases hi : S.it = 0
  · have hx := sets_blk [(5, .int .u8 (c : Int))] w _ h.blk
    have HX := Lib.hid hx
    have e1 : inS S c = { S with it := c } := by unfold inS; rw [if_neg (by simpa using hi)]
    have He := Lib.hid e1
    rw [hi] at c5
    clear h hx hi e1
    go_enter Try.func70, Try.ntmps70
    go_wp2_with fail
    go_end0
    exact ⟨rfl, by rw [He.out]; exact HP.out.wr HX.out.1 HX.out.2 rfl rfl (by rw [← He.out]; exact OK_in HP.out.oks c), TR.obj HX.out.2 (NO.self _ _) (NO.self _ _) (NO.self _ _)⟩
  · have hx := sets_blk [(10, .bool true)] w _ h.blk
    have HX := Lib.hid hx
    have e1 : inS S c = { S with gone := true } := by unfold inS; rw [if_pos hi]
    have He := Lib.hid e1
    have t1 : ((S.it : Int) != 0) = true := bne_iff_ne.2 (by omega)
    have t2 : ((S.it : Int) == 0) = false := beq_eq_false_iff_ne.2 (by omega)
    have t3 : ¬ (S.it : Int) = 0 := by omega
    clear h hx hi e1
    go_enter Try.func70, Try.ntmps70
    go_wp2_with fail
    ((try simp only [Exit.inBlock, Exit.then]); refine bodyPost_ret (results_none rfl _ _ _) rfl ?_)
    exact ⟨rfl, by rw [He.out]; exact HP.out.wr HX.out.1 HX.out.2 rfl rfl (by rw [← He.out]; exact OK_in HP.out.oks c), TR.obj HX.out.2 (NO.self _ _) (NO.self _ _) (NO.self _ _)⟩
section
variable {P : Program} {ops : Array Oper} {rest : List Oper} {o : Oper} {a : Act} {Q : Exit → Act → World → Prop} {α : Type}
/-- append(s, y), y of whatever kind; which blocks its rows and the row's may be is told. -/
theorem appke (d : Kd α) {W : World} (B : Nat) (s x : Operand) (t e : TypeId) (z : Value) (bytes : Nat) (hgd : o.guard = none)
    (ho : o.op = .call { callee := .builtin .append, args := #[s, x], argTypes := #[t, t] }) (ht : P.underlying t = some (.slice e))
    (hinfo : (P.info? e).map (fun i => (i.zero, i.size, i.bytes)) = some (some z, d.sz, bytes)) (hz : z.cells.size = d.sz) (hs0 : 0 < d.sz) (hb0 : 0 < bytes)
    (v : Value) (xs : List α) (p : α) (cs : List Value) (ok okp : Nat → Prop) (hs : a.eval s = v) (hx : a.eval x = .slice (some ⟨W.heap.size, 0, none⟩) 1 1)
    (hp : d.M W B okp p cs) (hokp : ∀ k, okp k → ok k ∧ some k ≠ v.ownBlock) (hfresh : ∀ k, W.heap.size ≤ k → ok k)
    (HO : d.R e W B ok v xs) (_hB : B ≤ W.heap.size) (hl : (xs.length + 1) * bytes ≤ 140737488355328)
    (h : ∀ v1 w1, d.R e w1 B ok v1 (xs ++ [p]) → (W.alloc (.cells cs.toArray e)).grownBy w1 v.ownBlock → NO W v v1 → wpList P ops Q rest (a.put o.dst v1) w1) :
    wpList P ops Q (o :: rest) a (W.alloc (.cells cs.toArray e)) := by
  obtain ⟨i0, hi, hzz⟩ := Option.map_eq_some_iff.1 hinfo
  simp only [Prod.mk.injEq] at hzz
  obtain ⟨hz0, hz1, hz2⟩ := hzz
  have hlen : xs.length + 1 ≤ 140737488355328 := Nat.le_trans (Nat.le_mul_of_pos_right _ hb0) hl
  obtain ⟨h0, inner, hown, hr⟩ := HO
  have hck := d.K_len (d.K_of_M hp)
  refine wpList_append_own_at (W.alloc (.cells cs.toArray e)) hgd s x t ho B e i0 z d.sz bytes ht hi hz0 hz1 hz2 hz hs0 v xs.length inner hs (hown.alloc _) ⟨W.heap.size, 0, none⟩ 1 1 cs hx (by rw [hck]; simp)
    (by simpa using World.news_of_block (cs := cs.toArray) (t := e) (fr := (0, 0)) (heap_alloc_new W (.cells cs.toArray e))) (d.K_one (d.K_of_M hp)) (by simp only [maxLen]; omega) hl (by simp; omega) ?_
  intro v1 w1 hown1 hg _ hat
  have hg' := World.grownBy.trans (World.grownBy_alloc W _ _) hg
  have hat' : v1.ownBlock = v.ownBlock ∨ ∃ b, v1.ownBlock = some b ∧ W.heap.size ≤ b := by
    rcases hat with hat | hat
    · exact .inl hat
    · exact .inr ⟨_, hat, by simp⟩
  refine h v1 w1 (Kd.R_appended h0 hr hp hokp hfresh hown1 hg' hat') hg (fun k hk => ?_)
  rcases hat' with e1 | ⟨b, e1, hb⟩
  · exact .inl (e1 ▸ hk)
  · rw [e1] at hk
    injection hk with hk
    exact .inr (by omega)
end
theorem Kd.R_over_ne {α β : Type} {d : Kd α} {d' : Kd β} {w : World} {n0 n1 : Nat} {e e' : TypeId} {u v : Value} {xs : List α} {ys : List β} (h : d.R e w n0 (fun _ => True) u xs) (h' : d'.R e' w n1 (fun _ => True) v ys) (hne : e ≠ e' := by decide) : ∀ k, some k = v.ownBlock → some k ≠ u.ownBlock := fun k hk => by
  obtain ⟨cells, hc⟩ := Kd.R_typed h' k hk.symm
  exact Kd.R_ne h hc hne
/-- the event that a sequence is, as it is appended -/
theorem M_ev {w : World} {n0 : Nat} {vp : Value} {l : List Int} (kd pt pr it fn : Int) (t : ByteArray) (h : (Kd.int .i64).R tI w n0 (fun _ => True) vp l) : kE.M w n0 (fun k => some k = vp.ownBlock) (kd, pt, pr, it, fn, l, t) [.int .i64 kd, .int .i32 pt, .int .u8 pr, .int .u8 it, .int .u8 fn, vp, .string t] :=
  ⟨[_], _, rfl, rfl, [_], _, rfl, rfl, [_], _, rfl, rfl, [_], _, rfl, rfl, [_], _, rfl, rfl, [_], _, rfl, ⟨vp, rfl, fun _ hk => hk.symm, h.2.imp_ (fun _ _ hp => hp)⟩, rfl⟩
set_option maxRecDepth 100000 in
set_option maxHeartbeats 6400000 in
theorem end_any (n0 b kd fn : Nat) (t : ByteArray) (vp vt vo : Value) (S : St) (evs : List Ev) (w : World) (h : PMt t n0 b vp vt vo S evs w) (hl : evs.length ≤ 1000000000) :
    Calls Try.prog 71 #[.pointer (some ⟨b, 0, none⟩), .int .i64 (kd : Int), .int .u8 (fn : Int)] w fun e w' => e = .returned (.tuple #[]) ∧ ∃ vo', PM n0 b (.slice none 0 0) (.slice none 0 0) vo' (enS 0) (evs ++ endE S kd fn t) w' ∧ TR b vp vt vo (.slice none 0 0) (.slice none 0 0) vo' w w' := by
  have HP := Lib.hid h
  have hx := sets_blk [(2, .int .i64 (kd : Int)), (6, .int .u8 (fn : Int))] w _ h.blk
  have HX := Lib.hid hx
  have HL := Lib.hid hl
  have fz := blk_frozen h.blk
  have c2 : w.cell? ⟨b, 2, none⟩ = some (.int .i64 0) := by rw [blk_cell h.blk]; rfl
  have c6 : w.cell? ⟨b, 6, none⟩ = some (.int .u8 0) := by rw [blk_cell h.blk]; rfl
  clear h hx hl
  go_enter Try.func71, Try.ntmps71
  go_upto_region 1 with (fail)
  refine wp_at fun W hW => ?_
  have hB : W.heap[b]? = some (.cells #[.bool true, .int .i64 (S.st : Int), .int .i64 (kd : Int), .int .i32 0, .int .u8 (S.pr : Int), .int .u8 (S.it : Int), .int .u8 (fn : Int), vp, .string t, .bool S.came, .bool S.gone, .bool S.marked, vt, vo] tP (0, 0)) := by rw [hW]; exact HX.out.1
  have hG : w.grownBy W (some b) := by rw [hW]; exact HX.out.2
  have HB := Lib.hid hB
  have HG := Lib.hid hG
  clear hW c2 c6 fz HX hG
  have c10 : W.cell? ⟨b, 10, none⟩ = some (.bool S.gone) := by rw [blk_cell hB]; rfl
  have HE := Lib.hid (enter_raw b 0 _ _ _ _ _ _ _ _ _ _ _ _ vo W hB)
  cases hgone : S.gone with
  | true =>
    rw [hgone] at c10
    have e1 : endE S kd fn t = [] := by unfold endE; rw [hgone]; rfl
    have He := Lib.hid e1
    clear hB e1 hgone
    go_wp2_with (go_at_call 63; refine HE.out.mono ?_; rintro e w3 ⟨rfl, hb3, hg3⟩; (have HB3 := Lib.hid hb3); (have HG3 := Lib.hid hg3); clear hb3 hg3)
    go_end0
    have hg := HG.out.trans HG3.out
    exact ⟨rfl, vo, by rw [He.out, List.append_nil]; exact PMt.en (by decide) HP.out HB3.out hg, TR.obj hg (NO.nil _ _) (NO.nil _ _) (NO.self _ _)⟩
  | false =>
    rw [hgone] at c10
    have e1 : endE S kd fn t = [((kd : Int), 0, (S.pr : Int), (S.it : Int), (fn : Int), nat S.par, t)] := by unfold endE; rw [hgone]; rfl
    have He := Lib.hid e1
    have HPar := Lib.hid (R_obj HP.out.par HP.out.blk (by intro q hq; simp [Kd.int, Kd.scalar] at hq; subst hq; decide) HG.out)
    have HOut := Lib.hid (HP.out.outR HG.out)
    clear e1 hgone HE
    go_upto_region 2 with (fail)
    obtain ⟨Wd, hWd⟩ : ∃ W', W.drew = W' := ⟨_, rfl⟩
    have hsz : W.heap.size = Wd.heap.size := by rw [← hWd]; rfl
    have hBd : Wd.heap[b]? = some (.cells #[.bool true, .int .i64 (S.st : Int), .int .i64 (kd : Int), .int .i32 0, .int .u8 (S.pr : Int), .int .u8 (S.it : Int), .int .u8 (fn : Int), vp, .string t, .bool S.came, .bool S.gone, .bool S.marked, vt, vo] tP (0, 0)) := by rw [← hWd]; exact hB
    have HBd := Lib.hid hBd
    have HGd := Lib.hid (show w.grownBy Wd (some b) from by rw [← hWd]; exact HG.out.trans (grown_drew _ _))
    have HPard := Lib.hid (show (Kd.int .i64).R tI Wd n0 (fun _ => True) vp (nat S.par) from by rw [← hWd]; exact Kd.R_below HPar.out (stay0 W))
    have HOutd := Lib.hid (show kE.R tE Wd n0 (fun _ => True) vo evs from by rw [← hWd]; exact Kd.R_mono (Kd.R_below HOut.out (stay0 W)) (fun _ _ => trivial))
    have HNs := Lib.hid (show n0 ≤ Wd.heap.size from Nat.le_trans HP.out.ge (Nat.le_of_lt (blk_lt hBd)))
    have g2 : ∀ m : Q.GW Wd Wd.heap.size vo.ownBlock, m.w.cell? ⟨b, 2, none⟩ = some (.int .i64 (kd : Int)) := fun m => by rw [World.cell?_of_block (w := Wd) (a := ⟨b, 2, none⟩) (m.h.block b (blk_lt hBd) (Kd.R_ne HOutd.out hBd (by decide))), blk_cell hBd]; rfl
    have g3 : ∀ m : Q.GW Wd Wd.heap.size vo.ownBlock, m.w.cell? ⟨b, 3, none⟩ = some (.int .i32 0) := fun m => by rw [World.cell?_of_block (w := Wd) (a := ⟨b, 3, none⟩) (m.h.block b (blk_lt hBd) (Kd.R_ne HOutd.out hBd (by decide))), blk_cell hBd]; rfl
    have g4 : ∀ m : Q.GW Wd Wd.heap.size vo.ownBlock, m.w.cell? ⟨b, 4, none⟩ = some (.int .u8 (S.pr : Int)) := fun m => by rw [World.cell?_of_block (w := Wd) (a := ⟨b, 4, none⟩) (m.h.block b (blk_lt hBd) (Kd.R_ne HOutd.out hBd (by decide))), blk_cell hBd]; rfl
    have g5 : ∀ m : Q.GW Wd Wd.heap.size vo.ownBlock, m.w.cell? ⟨b, 5, none⟩ = some (.int .u8 (S.it : Int)) := fun m => by rw [World.cell?_of_block (w := Wd) (a := ⟨b, 5, none⟩) (m.h.block b (blk_lt hBd) (Kd.R_ne HOutd.out hBd (by decide))), blk_cell hBd]; rfl
    have g6 : ∀ m : Q.GW Wd Wd.heap.size vo.ownBlock, m.w.cell? ⟨b, 6, none⟩ = some (.int .u8 (fn : Int)) := fun m => by rw [World.cell?_of_block (w := Wd) (a := ⟨b, 6, none⟩) (m.h.block b (blk_lt hBd) (Kd.R_ne HOutd.out hBd (by decide))), blk_cell hBd]; rfl
    have g7 : ∀ m : Q.GW Wd Wd.heap.size vo.ownBlock, m.w.cell? ⟨b, 7, none⟩ = some (vp) := fun m => by rw [World.cell?_of_block (w := Wd) (a := ⟨b, 7, none⟩) (m.h.block b (blk_lt hBd) (Kd.R_ne HOutd.out hBd (by decide))), blk_cell hBd]; rfl
    have g8 : ∀ m : Q.GW Wd Wd.heap.size vo.ownBlock, m.w.cell? ⟨b, 8, none⟩ = some (.string t) := fun m => by rw [World.cell?_of_block (w := Wd) (a := ⟨b, 8, none⟩) (m.h.block b (blk_lt hBd) (Kd.R_ne HOutd.out hBd (by decide))), blk_cell hBd]; rfl
    have g13 : ∀ m : Q.GW Wd Wd.heap.size vo.ownBlock, m.w.cell? ⟨b, 13, none⟩ = some (vo) := fun m => by rw [World.cell?_of_block (w := Wd) (a := ⟨b, 13, none⟩) (m.h.block b (blk_lt hBd) (Kd.R_ne HOutd.out hBd (by decide))), blk_cell hBd]; rfl
    refine Q.wp_region_segsF vo.ownBlock [([0, 1, 2, 3, 4, 5, 6, 7, 8], some 9), ([], some 10)] [11, 12] 13 (by kernel_rfl) (by kernel_rfl) (by kernel_rfl) (by kernel_rfl) ?_
    dsimp only [Q.wpSegsF, Q.picks, Q.pick]
    rw [hWd, hsz]
    clear hWd hsz hB c10 HB HG HPar HOut
    repeat (go_big_quiet_step (fail))
    refine wpQuiet_nil ?_
    clear g2 g3 g4 g5 g6 g7 g8 g13 hBd
    go_wp2_with fail
    refine Q.ev_keep ((Below.refl _ _).alloc (Nat.le_refl _) _) (Nat.le_refl _) ?_
    refine wpQuiet_nil ?_
    go_wp2_with (at_builtin; refine appke kE n0 (.tmp 25) (.tmp 30) 58 tE (.agg #[.int .i64 0, .int .i32 0, .int .u8 0, .int .u8 0, .int .u8 0, .slice none 0 0, .string ⟨#[]⟩]) 56 rfl rfl Try.underlying58 info_E rfl (by decide) (by decide) vo evs ((kd : Int), 0, (S.pr : Int), (S.it : Int), (fn : Int), nat S.par, t) [.int .i64 (kd : Int), .int .i32 0, .int .u8 (S.pr : Int), .int .u8 (S.it : Int), .int .u8 (fn : Int), vp, .string t] (fun _ => True) (fun k => some k = vp.ownBlock) rfl rfl (M_ev _ _ _ _ _ _ HPard.out) (fun k hk => ⟨trivial, fun e => (Kd.R_over_ne HOutd.out HPard.out) k hk e⟩) (fun _ _ => trivial) HOutd.out HNs.out (by have := HL.out; omega) ?_; intro vo1 w1 hr1 hg1 hno1; (have HR1 := Lib.hid hr1); (have HG1 := Lib.hid hg1); (have HN1 := Lib.hid hno1); clear hr1 hg1 hno1)
    obtain ⟨A1, c1, hv1⟩ := Kd.R_slice HR1.out
    obtain ⟨m1, hm1⟩ : ∃ m, (evs ++ [((kd : Int), (0 : Int), (S.pr : Int), (S.it : Int), (fn : Int), nat S.par, t)]).length = m := ⟨_, rfl⟩
    rw [hm1] at hv1
    subst hv1
    clear hm1
    refine Q.ev_app (Q.Gr.of_grown HG1.out (by simp)) (Nat.le_refl _) (Q.NewRow.self _ _) ?_
    have hb1 := blk_grown (blk_below HBd.out ((Below.refl _ _).alloc (Nat.le_refl _) (.cells #[.int .i64 (kd : Int), .int .i32 0, .int .u8 (S.pr : Int), .int .u8 (S.it : Int), .int .u8 (fn : Int), vp, .string t] tE))) HG1.out (Kd.R_ne HOutd.out HBd.out (by decide))
    have fz := blk_frozen hb1
    have c13 : w1.cell? ⟨b, 13, none⟩ = some vo := by rw [blk_cell hb1]; rfl
    have hb2 := blk_set hb1 13 (.slice A1 m1 c1)
    have HB2 := Lib.hid (show (w1.setCell ⟨b, 13, none⟩ (.slice A1 m1 c1)).heap[b]? = some (.cells #[.bool true, .int .i64 (S.st : Int), .int .i64 (kd : Int), .int .i32 0, .int .u8 (S.pr : Int), .int .u8 (S.it : Int), .int .u8 (fn : Int), vp, .string t, .bool S.came, .bool S.gone, .bool S.marked, vt, (.slice A1 m1 c1)] tP (0, 0)) from hb2)
    have HB1 := Lib.hid hb1
    clear hb1 hb2
    repeat (go_big_quiet_step (fail))
    refine wpQuiet_nil ?_
    go_wp2_with fail
    refine NoPanic.normal ?_
    clear fz c13
    refine exit_at fun W3 hW3 => ?_
    rw [← hW3] at HB2
    have HG3 := Lib.hid (show w1.grownBy W3 (some b) from by rw [hW3]; exact grown_set _ _ _ _)
    clear hW3
    have HE := Lib.hid (enter_raw b 0 _ _ _ _ _ _ _ _ _ _ _ _ (.slice A1 m1 c1) W3 HB2.out)
    go_wp2_with (go_at_call 63; refine HE.out.mono ?_; rintro e w3 ⟨rfl, hb3, hg3⟩; (have HB3 := Lib.hid hb3); (have HG4 := Lib.hid (HG3.out.trans hg3)); clear hb3 hg3)
    go_end0
    refine ⟨rfl, (.slice A1 m1 c1), ?_, ?_⟩
    · rw [He.out]
      exact ⟨HB3.out, Kd.R_nil _ _ _ _ _, Kd.R_nil _ _ _ _ _, Kd.R_mono (R_obj HR1.out HB1.out (by intro q hq; simp [kE, Kd.pair, Kd.slice, Kd.string, Kd.int, Kd.scalar] at hq; rcases hq with rfl | rfl <;> decide) HG4.out) (fun _ _ => by simp [Value.ownBlock]), HP.out.ge, OK_en (by decide)⟩
    · have ha : Wd.heap.size ≤ (Wd.alloc (.cells #[.int .i64 (kd : Int), .int .i32 0, .int .u8 (S.pr : Int), .int .u8 (S.it : Int), .int .u8 (fn : Int), vp, .string t] tE)).heap.size := by simp
      refine ⟨HG4.out.os.trans (HG1.out.os.trans HGd.out.os), HG4.out.tape.trans (HG1.out.tape.trans HGd.out.tape), HG4.out.output.trans (HG1.out.output.trans HGd.out.output), Nat.le_trans HGd.out.size (Nat.le_trans ha (Nat.le_trans HG1.out.size HG4.out.size)), fun k hk h1 _ _ h4 => ?_, NO.nil _ _, NO.nil _ _, fun k hk => ?_⟩
      · have k1 : k < Wd.heap.size := Nat.lt_of_lt_of_le hk HGd.out.size
        have e1 := HGd.out.block k hk (fun e => h1 (by injection e))
        have e2 := HG1.out.block k (Nat.lt_of_lt_of_le k1 ha) h4
        have e3 := HG4.out.block k (Nat.lt_of_lt_of_le k1 (Nat.le_trans ha HG1.out.size)) (fun e => h1 (by injection e))
        exact e3.trans (e2.trans ((Below.heap_alloc Wd _ k k1).trans e1))
      · rcases HN1.out k hk with h5 | h5
        · exact .inl h5
        · exact .inr (Nat.le_trans HGd.out.size h5)
end Go.Proofs.Ytbcononfgpfdbaa.An
