/-
  vint: Numbers tells the numbers that stand in bytes, one behind the other.
-/
import Derived.Test.YtigbmbmngkmdlaaVd
namespace Go.Proofs.Ytigbmbmngkmdlaa.V
open Go.RowKit Go.Proofs.Ytigbmbmngkmdlaa.L Go.Proofs.YtigbmbmngkmdlaaW.PrintWords

theorem info_u64 : (Try.prog.info? 22).map (fun i => (i.zero, i.size, i.bytes)) = some (some (.int .u64 0), 1, 8) := by kernel_rfl
theorem info_u8 : (Try.prog.info? 5).map (fun i => (i.zero, i.size, i.bytes)) = some (some (.int .u8 0), 1, 1) := by kernel_rfl

theorem dec_len : ∀ (r : List Int), (dec r).2.2 = 0 → 1 ≤ (dec r).2.1 ∧ (dec r).2.1 ≤ r.length := by
  intro r h
  unfold dec at h ⊢
  (repeat' split at h) <;> (first | (simp at h; done) | skip) <;> (repeat' split) <;> simp_all <;> omega

/-- the numbers of bytes, behind others; the error -/
def numsL : Nat → List Int → List Int → List Int × Int
  | 0, _, acc => (acc, 0)
  | k + 1, r, acc => if r = [] then (acc, 0) else if (dec r).2.2 = 0 then numsL k (r.drop (dec r).2.1.toNat) (acc ++ [(dec r).1]) else ([], (dec r).2.2)
def numsR (l : List Int) : List Int × Int := numsL (l.length + 1) l []

set_option maxHeartbeats 1600000 in
set_option maxRecDepth 100000 in
theorem numbers_any (l : List Int) (A : Option Addr) (c : Nat) (w : World) (hC : (Kd.int .u8).C w A l.length l) (hc : l.length ≤ c) (hb : okB l) (hs : l.length * 8 ≤ 140737488355328) :
    Calls Try.prog 39 #[.slice A l.length c] w fun e w' => ∃ v0 : Value, e = .returned (.tuple #[v0, .int .i64 (numsR l).2]) ∧ (Kd.int .u64).R 22 w' w.heap.size (fun _ => True) v0 (numsR l).1 ∧ Below w.heap.size w w' := by
  have HG := Lib.hid (fun (w' : World) (i : Int) (h : Below w.heap.size w w') => get_any l A c i w' (Kd.C_below hC h) hc hb)
  generalize hR : numsR l = R
  have hl := (C_open hC).1
  clear hC
  go_enter Try.func39, Try.ntmps39
  go_wp2
  go_loopg [4, 5] (l.length + 1) (fun g v4 v5 w' => ∃ (acc : List Int) (m : Nat), v5 = .int .i64 m ∧ Hid (m ≤ l.length ∧ acc.length ≤ m ∧ l.length < g + m ∧ numsL g (l.drop m) acc = R) ∧ Hid ((Kd.int .u64).R 22 w' w.heap.size (fun _ => True) v4 acc) ∧ Hid (Below w.heap.size w w'))
  case atStart => exact ⟨[], 0, rfl, Lib.hid ⟨by omega, by simp, by omega, hR⟩, Lib.hid (Kd.R_nil _ _ _ _ _), Lib.hid (Below.refl _ _)⟩
  case round =>
    obtain ⟨acc, m, rfl, HN, HO, HB⟩ := hrel
    cases gk with
    | zero => have := HN.out; omega
    | succ g =>
      obtain ⟨h1, h2, h3, h4⟩ := HN.out
      clear HN
      by_cases hlt : m < l.length
      · have hne : l.drop m ≠ [] := fun e => by have := congrArg List.length e; simp at this; omega
        have hg := HG.out
        have hgr : getR l (m : Int) = if (dec (l.drop m)).2.2 = 0 then ((dec (l.drop m)).1, (m : Int) + (dec (l.drop m)).2.1, 0) else (0, 0, (dec (l.drop m)).2.2) := by
          unfold getR; rw [if_neg (by omega), if_neg (by omega)]; rfl
        rw [numsL, if_neg hne] at h4
        have hgm := fun w' => hg w' (m : Int)
        rw [hgr] at hgm
        clear hgr hg
        by_cases he : (dec (l.drop m)).2.2 = 0
        · rw [if_pos he] at h4 hgm
          have hdl := dec_len _ he
          simp only [List.length_drop] at hdl
          obtain ⟨q, hq⟩ : ∃ q : Nat, (dec (l.drop m)).2.1 = q := ⟨_, (Int.toNat_of_nonneg (by omega)).symm⟩
          rw [hq] at h4 hgm hdl
          rw [List.drop_drop, Int.toNat_natCast] at h4
          generalize (dec (l.drop m)).1 = x at h4 hgm
          have HM : Hid (∀ w' : World, Below w.heap.size w w' → Calls Try.prog 37 #[.slice A l.length c, .int .i64 m] w' fun e w'' => e = .returned (.tuple #[.int .u64 x, .int .i64 ((m + q : Nat) : Int), .int .i64 0]) ∧ Below w'.heap.size w' w'') := Lib.hid (fun w' hb => (hgm w' hb).mono fun e w'' h => ⟨h.1.trans (by simp [getV]), h.2⟩)
          have H4 := Lib.hid h4
          have H2 := Lib.hid h2
          clear hgm he hq h4 h2 HG
          go_wp2_with (first | (go_at_call 37; refine (HM.out _ HB.out).mono ?_; rintro e w1 ⟨rfl, hb1⟩; (have HB1 := Lib.hid (stay1 HB.out hb1)); (have HO1 := Lib.hid (Kd.R_below HO.out hb1)); clear hb1) | (at_builtin; refine app1 .u64 w.heap.size (.tmp 23) (.tmp 25) 62 22 8 rfl rfl Try.underlying62 info_u64 (by decide) _ acc x rfl rfl HO1.out HB1.out HB1.out.size (by have := H2.out; omega) ?_; intro v1 w2 ho2 hb2 _; (have HO2 := Lib.hid ho2); (have HB2 := Lib.hid hb2); clear ho2 hb2))
          go_roundg g
          case measure => omega
          case rel => exact ⟨acc ++ [x], m + q, rfl, Lib.hid ⟨by omega, by have := H2.out; simp; omega, by omega, H4.out⟩, HO2, HB2⟩
        · rw [if_neg he] at h4 hgm
          have hne2 : ((dec (l.drop m)).2.2 != 0) = true := by simpa using he
          generalize (dec (l.drop m)).2.2 = x at h4 hgm hne2
          have HM : Hid (∀ w' : World, Below w.heap.size w w' → Calls Try.prog 37 #[.slice A l.length c, .int .i64 m] w' fun e w'' => e = .returned (.tuple #[.int .u64 0, .int .i64 0, .int .i64 x]) ∧ Below w'.heap.size w' w'') := Lib.hid (fun w' hb => (hgm w' hb).mono fun e w'' h => ⟨h.1, h.2⟩)
          subst h4
          clear hgm he HG
          go_wp2_with (go_at_call 37; refine (HM.out _ HB.out).mono ?_; rintro e w1 ⟨rfl, hb1⟩)
          go_ret2
          exact ⟨_, rfl, Kd.R_nil _ _ _ _ _, stay1 HB.out hb1⟩
      · have e : l.drop m = [] := List.drop_eq_nil_of_le (by omega)
        rw [e, numsL, if_pos rfl] at h4
        subst h4
        clear HG
        go_wp2
        go_ret2
        exact ⟨_, rfl, HO.out, HB.out⟩

end Go.Proofs.Ytigbmbmngkmdlaa.V
