/-
  vint, the statements' own Great; the reference's Same at equal lists; Find and the reference's Find.
-/
import Derived.Test.YtigbmbmngkmdlaaFa
namespace Go.Proofs.Ytigbmbmngkmdlaa.V
open Go.RowKit Go.Proofs.Ytigbmbmngkmdlaa.L Go.Proofs.YtigbmbmngkmdlaaW.PrintWords

/-- are fields too much: n: how many they are; all: what came ahead -/
def greatL (n : Nat) : List Fld → Int → Bool
  | [], _ => false
  | f :: r, all => if 140 < n then true else if 17000 < f.2.length then true else if 60000 < all + f.2.length then true else greatL n r (all + f.2.length)
theorem great_spec {n : Nat} : ∀ {l : List Fld} {all : Int}, greatL n l all = false → 0 ≤ all → (l = [] ∨ n ≤ 140) ∧ (∀ f ∈ l, f.2.length ≤ 17000)
  | [], _, _, _ => ⟨.inl rfl, fun f hf => by cases hf⟩
  | f :: r, all, h, h0 => by
    unfold greatL at h
    by_cases h1 : 140 < n
    · rw [if_pos h1] at h; cases h
    rw [if_neg h1] at h
    by_cases h2 : 17000 < f.2.length
    · rw [if_pos h2] at h; cases h
    rw [if_neg h2] at h
    by_cases h3 : 60000 < all + f.2.length
    · rw [if_pos h3] at h; cases h
    rw [if_neg h3] at h
    have := great_spec h (by omega)
    refine ⟨.inr (by omega), fun g hg => ?_⟩
    rcases List.mem_cons.1 hg with rfl | hg
    · omega
    · exact this.2 g hg

set_option maxHeartbeats 1600000 in
set_option maxRecDepth 100000 in
theorem great_any (l : List Fld) (A : Option Addr) (c : Nat) (w : World) (hC : kF.C w A l.length l) :
    Calls Try.prog 52 #[.slice A l.length c] w fun e w' => e = .returned (.bool (greatL l.length l 0)) ∧ w = w' := by
  obtain ⟨hmx, ho⟩ := F_open hC
  have HO := Lib.hid ho
  clear hC ho
  generalize hR : greatL l.length l 0 = R
  have HR := Lib.hid hR
  clear hR
  go_enter Try.func52, Try.ntmps52
  go_wp2
  go_loopg [3, 4] (l.length + 1) (fun g v3 v4 w' => ∃ (m : Nat) (all : Int), v4 = .int .i64 m ∧ v3 = .int .i64 all ∧ Hid (m ≤ l.length ∧ l.length < g + m ∧ 0 ≤ all ∧ all ≤ 60000 ∧ greatL l.length (l.drop m) all = R) ∧ Hid (w = w'))
  case atStart => exact ⟨0, 0, rfl, rfl, Lib.hid ⟨by omega, by omega, by omega, by omega, HR.out⟩, Lib.hid rfl⟩
  case round =>
    obtain ⟨m, all, rfl, rfl, HN, HB⟩ := hrel
    have hw := HB.out
    subst hw
    clear HB
    cases gk with
    | zero => have := HN.out; omega
    | succ g =>
      obtain ⟨h1, h3, h4, h5, h6⟩ := HN.out
      clear HN HR
      by_cases hlt : m < l.length
      · rw [drop_cons_getD l zF m hlt, greatL] at h6
        rcases HO.out with e | ⟨b, off, rfl, _, hcells⟩
        · subst e; simp at hlt
        obtain ⟨k1, Aj, cj, k2, hcj, kr⟩ := hcells m hlt
        clear hcells k1 kr HO
        generalize l.getD m zF = f at h6 k2 hcj
        obtain ⟨tag, data⟩ := f
        simp only at h6 k2 hcj
        by_cases g1 : 140 < l.length
        · rw [if_pos g1] at h6
          subst h6
          have t1 : decide ((140 : Int) < (l.length : Int)) = true := by simp; omega
          go_wp2
          go_ret
          exact ⟨rfl, rfl⟩
        rw [if_neg g1] at h6
        have t1 : decide ((140 : Int) < (l.length : Int)) = false := by simp; omega
        by_cases g2 : 17000 < data.length
        · rw [if_pos g2] at h6
          subst h6
          have t2 : decide ((17000 : Int) < (data.length : Int)) = true := by simp; omega
          go_wp2
          go_ret
          exact ⟨rfl, rfl⟩
        rw [if_neg g2] at h6
        have t2 : decide ((17000 : Int) < (data.length : Int)) = false := by simp; omega
        by_cases g3 : (60000 : Int) < all + (data.length : Int)
        · rw [if_pos g3] at h6
          subst h6
          go_wp2
          go_ret
          exact ⟨rfl, rfl⟩
        rw [if_neg g3] at h6
        have H6 := Lib.hid h6
        clear h6
        go_wp2
        go_roundg g
        case measure => omega
        case rel => exact ⟨m + 1, _, by go_num, rfl, Lib.hid ⟨by omega, by omega, by omega, by omega, H6.out⟩, Lib.hid rfl⟩
      · rw [List.drop_eq_nil_of_le (by omega), greatL] at h6
        subst h6
        clear HO
        go_wp2
        go_ret
        exact ⟨rfl, rfl⟩

set_option maxHeartbeats 1600000 in
set_option maxRecDepth 100000 in
theorem same_refl (l : List Fld) (A A' : Option Addr) (c c' : Nat) (w : World) (hC : kF.C w A l.length l) (hC' : kF.C w A' l.length l) :
    Calls Try.prog 56 #[.slice A l.length c, .slice A' l.length c'] w fun e w' => e = .returned (.bool true) ∧ Below w.heap.size w w' := by
  obtain ⟨hmx, ho⟩ := F_open hC
  obtain ⟨_, ho'⟩ := F_open hC'
  have HO := Lib.hid ho
  have HO' := Lib.hid ho'
  clear hC ho hC' ho'
  go_enter Try.func56, Try.ntmps56
  go_wp2
  go_loopg [5] (l.length + 1) (fun g v5 w' => ∃ (m : Nat), v5 = .int .i64 m ∧ Hid (m ≤ l.length ∧ l.length < g + m) ∧ Hid (Below w.heap.size w w'))
  case atStart => exact ⟨0, rfl, Lib.hid ⟨by omega, by omega⟩, Lib.hid (Below.refl _ _)⟩
  case round =>
    obtain ⟨m, rfl, HN, HB⟩ := hrel
    cases gk with
    | zero => have := HN.out; omega
    | succ g =>
      obtain ⟨h1, h3⟩ := HN.out
      clear HN
      by_cases hlt : m < l.length
      · rcases HO.out with e | ⟨b, off, rfl, _, hcells⟩
        · subst e; simp at hlt
        rcases HO'.out with e | ⟨b', off', rfl, _, hcells'⟩
        · subst e; simp at hlt
        obtain ⟨k1, Aj, cj, k2, hcj, kr⟩ := hcells m hlt
        obtain ⟨k1', Aj', cj', k2', hcj', kr'⟩ := hcells' m hlt
        clear hcells hcells' HO HO'
        generalize l.getD m zF = f at k1 k2 hcj kr k1' k2' hcj' kr'
        obtain ⟨tag, data⟩ := f
        simp only at k1 k2 hcj kr k1' k2' hcj' kr'
        have up : ∀ n : Q.GW wr.drew wr.heap.size none, Below w.heap.size w n.w := fun n => stay1 HB.out (stay1 (stay0 wr) n.below)
        have q1 : ∀ n : Q.GW wr.drew wr.heap.size none, n.w.cell? ⟨b, off + m * 2, none⟩ = some (.int .u8 tag) := fun n => pw_cell_below (up n) k1
        have q2 : ∀ n : Q.GW wr.drew wr.heap.size none, n.w.cell? ⟨b, off + m * 2 + 1, none⟩ = some (.slice Aj data.length cj) := fun n => pw_cell_below (up n) k2
        have q3 : ∀ n : Q.GW wr.drew wr.heap.size none, n.w.cell? ⟨b', off' + m * 2, none⟩ = some (.int .u8 tag) := fun n => pw_cell_below (up n) k1'
        have q4 : ∀ n : Q.GW wr.drew wr.heap.size none, n.w.cell? ⟨b', off' + m * 2 + 1, none⟩ = some (.slice Aj' data.length cj') := fun n => pw_cell_below (up n) k2'
        have q5 : ∀ n : Q.GW wr.drew wr.heap.size none, (convert 25 9 (.slice Aj data.length cj)).run Try.prog n.w = .ok (.string (strOfNums data)) n.w := fun n => Kd.C_string Try.underlying25 Try.underlying5 Try.underlying9 (Kd.C_below kr (up n))
        have q6 : ∀ n : Q.GW wr.drew wr.heap.size none, (convert 25 9 (.slice Aj' data.length cj')).run Try.prog n.w = .ok (.string (strOfNums data)) n.w := fun n => Kd.C_string Try.underlying25 Try.underlying5 Try.underlying9 (Kd.C_below kr' (up n))
        clear up k1 k2 k1' k2' kr kr'
        go_wp2_with fail
        refine Q.wp_region_segs none [([0, 1, 2, 3, 4, 5, 6, 7, 8, 9, 10, 11, 12, 13, 14, 15, 16, 17, 18, 19, 20, 21, 22, 23, 24, 25], none)] (by kernel_rfl) (by kernel_rfl) (by kernel_rfl) (by kernel_rfl) ?_
        dsimp only [Q.wpSegs, Q.picks, Q.pick]
        repeat (go_big_quiet_step (fail))
        refine wpQuiet_nil ?_
        refine NoPanic.normal ?_
        go_wp2
        go_roundg g
        case measure => omega
        case rel => exact ⟨m + 1, by go_num, Lib.hid ⟨by omega, by omega⟩, Lib.hid HB.out.drew⟩
      · clear HO HO'
        go_wp2
        go_ret
        exact ⟨rfl, HB.out⟩
end Go.Proofs.Ytigbmbmngkmdlaa.V
