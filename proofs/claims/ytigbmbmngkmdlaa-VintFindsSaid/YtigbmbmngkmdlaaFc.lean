/-
  vint: Find; the reference's Find.
-/
import Derived.Test.YtigbmbmngkmdlaaFb
namespace Go.Proofs.Ytigbmbmngkmdlaa.V
open Go.RowKit Go.Proofs.Ytigbmbmngkmdlaa.L Go.Proofs.YtigbmbmngkmdlaaW.PrintWords

/-- the place of the first field of a tag, k fields ahead of it; -1: there is none -/
def idxL (tag : Int) : List Fld → Nat → Int
  | [], _ => -1
  | f :: r, k => if f.1 = tag then k else idxL tag r (k + 1)
/-- the data of the first field of a tag -/
def findL (tag : Int) : List Fld → Option (List Int)
  | [] => none
  | f :: r => if f.1 = tag then some f.2 else findL tag r
theorem idx_find (tag : Int) : ∀ (l : List Fld) (k : Nat), (idxL tag l k = -1 ∧ findL tag l = none) ∨ ∃ j, j < l.length ∧ idxL tag l k = ((k + j : Nat) : Int) ∧ findL tag l = some (l.getD j zF).2
  | [], _ => .inl ⟨rfl, rfl⟩
  | f :: r, k => by
    unfold idxL findL
    by_cases h : f.1 = tag
    · rw [if_pos h, if_pos h]
      exact .inr ⟨0, by simp, by simp, rfl⟩
    · rw [if_neg h, if_neg h]
      rcases idx_find tag r (k + 1) with h1 | ⟨j, h1, h2, h3⟩
      · exact .inl h1
      · exact .inr ⟨j + 1, by simp; omega, by rw [h2]; congr 1; omega, by rw [h3]; simp⟩

set_option maxHeartbeats 800000 in
set_option maxRecDepth 100000 in
theorem find1_any (t tag : Int) (v : Value) (p : Addr) (w : World) (hc : w.cell? p = some (.int .u8 tag)) :
    Calls Try.prog 66 #[.agg #[.int .u8 t, v], .pointer (some p)] w fun e w' => e = .returned (.bool (t == tag)) ∧ Below w.heap.size w w' := by
  have hc' : (w.alloc (.cells #[.int .u8 t, v] 90)).cell? p = some (.int .u8 tag) := pw_cell_below ((Below.refl _ _).alloc (Nat.le_refl _) _) hc
  go_enter Try.func66, Try.ntmps66
  go_wp2
  go_ret
  exact ⟨rfl, (Below.refl _ _).alloc (Nat.le_refl _) _⟩

set_option maxHeartbeats 1600000 in
set_option maxRecDepth 100000 in
theorem index_any (l : List Fld) (A : Option Addr) (c : Nat) (tag : Int) (p : Addr) (w : World) (hC : kF.C w A l.length l) (hc : w.cell? p = some (.int .u8 tag)) :
    Calls Try.prog 65 #[.slice A l.length c, .func (.func 66) #[] #[.pointer (some p)]] w fun e w' => e = .returned (.int .i64 (idxL tag l 0)) ∧ Below w.heap.size w w' := by
  obtain ⟨hmx, ho⟩ := F_open hC
  have HO := Lib.hid ho
  have HP := Lib.hid hc
  clear hC ho hc
  generalize hR : idxL tag l 0 = R
  have HR := Lib.hid hR
  clear hR
  go_enter Try.func65, Try.ntmps65
  go_wp2
  go_loopg [8] (l.length + 1) (fun g v8 w' => ∃ (m : Nat), v8 = .int .i64 m ∧ Hid (m ≤ l.length ∧ l.length < g + m ∧ idxL tag (l.drop m) m = R) ∧ Hid (Below w.heap.size w w'))
  case atStart => exact ⟨0, rfl, Lib.hid ⟨by omega, by omega, HR.out⟩, Lib.hid (Below.refl _ _)⟩
  case round =>
    obtain ⟨m, rfl, HN, HB⟩ := hrel
    cases gk with
    | zero => have := HN.out; omega
    | succ g =>
      obtain ⟨h1, h3, h6⟩ := HN.out
      clear HN HR
      by_cases hlt : m < l.length
      · rw [drop_cons_getD l zF m hlt, idxL] at h6
        rcases HO.out with e | ⟨b, off, rfl, _, hcells⟩
        · subst e; simp at hlt
        obtain ⟨k1, Aj, cj, k2, hcj, kr⟩ := hcells m hlt
        have k1' := pw_cell_below HB.out k1
        have k2' := pw_cell_below HB.out k2
        clear hcells k1 k2 kr HO
        generalize l.getD m zF = f at h6 k1' k2'
        obtain ⟨t, data⟩ := f
        simp only at h6 k1' k2'
        by_cases ht : t = tag
        · rw [if_pos ht] at h6
          subst h6
          have hb : (t == tag) = true := by simpa using ht
          have HF := Lib.hid (fun (w' : World) (v : Value) (h : Below w.heap.size w w') => find1_any t tag v p w' (pw_cell_below h HP.out))
          rw [hb] at HF
          clear hb ht
          go_wp2_with (go_at_call 66; refine (HF.out _ _ HB.out).mono ?_; rintro e w1 ⟨rfl, hb1⟩; (have HB1 := Lib.hid (stay1 HB.out hb1)); clear hb1)
          go_ret
          exact ⟨rfl, HB1.out⟩
        · rw [if_neg ht] at h6
          have hb : (t == tag) = false := by simpa using ht
          have HF := Lib.hid (fun (w' : World) (v : Value) (h : Below w.heap.size w w') => find1_any t tag v p w' (pw_cell_below h HP.out))
          rw [hb] at HF
          have H6 := Lib.hid h6
          clear hb ht h6
          go_wp2_with (go_at_call 66; refine (HF.out _ _ HB.out).mono ?_; rintro e w1 ⟨rfl, hb1⟩; (have HB1 := Lib.hid (stay1 HB.out hb1)); clear hb1)
          go_roundg g
          case measure => omega
          case rel => exact ⟨m + 1, by go_num, Lib.hid ⟨by omega, by omega, H6.out⟩, HB1⟩
      · rw [List.drop_eq_nil_of_le (by omega), idxL] at h6
        subst h6
        clear HO
        go_wp2
        go_ret
        exact ⟨rfl, HB.out⟩

set_option maxHeartbeats 1600000 in
set_option maxRecDepth 100000 in
theorem find_any (l : List Fld) (A : Option Addr) (c : Nat) (tag : Int) (w : World) (hC : kF.C w A l.length l) (hd : ∀ f ∈ l, f.2.length ≤ 140737488355328) :
    Calls Try.prog 53 #[.slice A l.length c, .int .u8 tag] w fun e w' => ∃ v0 : Value, e = .returned (.tuple #[v0, .bool (findL tag l).isSome]) ∧ (Kd.int .u8).R 5 w' w.heap.size (fun _ => True) v0 ((findL tag l).getD []) ∧ Below w.heap.size w w' := by
  have hmf : ∀ (fn : Fn) (first cap : Array Value) (w : World), (Instr.makeFunc fn first cap).run Try.prog w = .ok (.func fn first cap) w := fun _ _ _ _ => rfl
  have HI := Lib.hid (fun (w' : World) (p : Addr) (h : Below w.heap.size w w') (hp : w'.cell? p = some (.int .u8 tag)) => index_any l A c tag p w' (Kd.C_below hC h) hp)
  obtain ⟨hmx, ho⟩ := F_open hC
  have HO := Lib.hid ho
  clear hC ho
  rcases idx_find tag l 0 with ⟨h1, h2⟩ | ⟨j, h0, h1, h2⟩
  · rw [h1] at HI
    rw [h2]
    clear h1 h2
    go_enter Try.func53, Try.ntmps53
    go_wp2_with (go_at_call 65; refine (HI.out _ ⟨w.heap.size, 0, none⟩ ((Below.refl _ _).alloc (Nat.le_refl _) _) (World.cell?_alloc_at _ _ _ _ rfl)).mono ?_; rintro e w1 ⟨rfl, hb1⟩; (have HB1 := Lib.hid (stay1 ((Below.refl w.heap.size w).alloc (Nat.le_refl _) (.cells #[.int .u8 tag] 5)) hb1)); clear hb1)
    go_ret2
    exact ⟨_, rfl, Kd.R_nil _ _ _ _ _, HB1.out⟩
  · rw [h1] at HI
    rw [h2]
    rcases HO.out with e | ⟨b, off, rfl, _, hcells⟩
    · subst e; simp at h0
    obtain ⟨k1, Aj, cj, k2, hcj, kr⟩ := hcells j h0
    have hdj : (l.getD j zF).2.length ≤ 140737488355328 := by
      rw [List.getD_eq_getElem?_getD, List.getElem?_eq_getElem h0]
      exact hd _ (List.getElem_mem h0)
    have KR := Lib.hid kr
    have HD := Lib.hid hdj
    clear hcells k1 kr HO h1 h2 hdj hd
    generalize (l.getD j zF).2 = data at k2 hcj KR HD
    have k2' : ∀ w', Below w.heap.size w w' → w'.cell? ⟨b, off + j * 2 + 1, none⟩ = some (.slice Aj data.length cj) := fun w' h => pw_cell_below h k2
    rw [Nat.zero_add] at HI
    clear k2
    go_enter Try.func53, Try.ntmps53
    go_wp2_with (first
      | (go_at_call 65; refine (HI.out _ ⟨w.heap.size, 0, none⟩ ((Below.refl _ _).alloc (Nat.le_refl _) _) (World.cell?_alloc_at _ _ _ _ rfl)).mono ?_; rintro e w1 ⟨rfl, hb1⟩; (have HB1 := Lib.hid (stay1 ((Below.refl w.heap.size w).alloc (Nat.le_refl _) (.cells #[.int .u8 tag] 5)) hb1)); (have k2a := k2' _ HB1.out); clear hb1)
      | (go_at_call 61; refine (S.clone_any data Aj cj _ (Kd.C_below KR.out HB1.out) HD.out).mono ?_; rintro e w2 ⟨v2, rfl, ho2, hb2⟩; (have HO2 := Lib.hid ho2); (have HB2 := Lib.hid hb2); clear ho2 hb2))
    go_ret2
    exact ⟨_, rfl, Kd.R_lower HO2.out HB1.out.size, stay1 HB1.out HB2.out⟩

/-- what the reference's Find hands back: a row that is read -/
def RF (d : List Int) (b : Bool) (w : World) (e : Ending) (w' : World) : Prop := ∃ A0 c0, e = .returned (.tuple #[.slice A0 d.length c0, .bool b]) ∧ (Kd.int .u8).C w A0 d.length d ∧ w = w'
set_option maxHeartbeats 1600000 in
set_option maxRecDepth 100000 in
theorem rfind_any (l : List Fld) (A : Option Addr) (c : Nat) (tag : Int) (w : World) (hC : kF.C w A l.length l) :
    Calls Try.prog 60 #[.slice A l.length c, .int .u8 tag] w (RF ((findL tag l).getD []) (findL tag l).isSome w) := by
  obtain ⟨hmx, ho⟩ := F_open hC
  have HO := Lib.hid ho
  clear hC ho
  generalize hR : findL tag l = R
  have HR := Lib.hid hR
  clear hR
  go_enter Try.func60, Try.ntmps60
  go_wp2
  go_loopg [6] (l.length + 1) (fun g v6 w' => ∃ (m : Nat), v6 = .int .i64 m ∧ Hid (m ≤ l.length ∧ l.length < g + m ∧ findL tag (l.drop m) = R) ∧ Hid (w = w'))
  case atStart => exact ⟨0, rfl, Lib.hid ⟨by omega, by omega, HR.out⟩, Lib.hid rfl⟩
  case round =>
    obtain ⟨m, rfl, HN, HB⟩ := hrel
    have hw := HB.out
    subst hw
    clear HB
    cases gk with
    | zero => have := HN.out; omega
    | succ g =>
      obtain ⟨h1, h3, h6⟩ := HN.out
      clear HN HR
      by_cases hlt : m < l.length
      · rw [drop_cons_getD l zF m hlt, findL] at h6
        rcases HO.out with e | ⟨b, off, rfl, _, hcells⟩
        · subst e; simp at hlt
        obtain ⟨k1, Aj, cj, k2, hcj, kr⟩ := hcells m hlt
        have KR := Lib.hid kr
        clear hcells kr HO
        generalize l.getD m zF = f at h6 k1 k2 KR
        obtain ⟨t, data⟩ := f
        simp only at h6 k1 k2
        by_cases ht : t = tag
        · rw [if_pos ht] at h6
          subst h6
          have hb : (t == tag) = true := by simpa using ht
          clear ht
          go_wp2
          go_ret2
          exact ⟨Aj, cj, rfl, KR.out, rfl⟩
        · rw [if_neg ht] at h6
          have hb : (t == tag) = false := by simpa using ht
          have H6 := Lib.hid h6
          clear ht h6
          go_wp2
          go_roundg g
          case measure => omega
          case rel => exact ⟨m + 1, by go_num, Lib.hid ⟨by omega, by omega, H6.out⟩, Lib.hid rfl⟩
      · rw [List.drop_eq_nil_of_le (by omega), findL] at h6
        subst h6
        clear HO
        go_wp2
        go_ret2
        exact ⟨none, 0, rfl, Kd.C_nil _ _, rfl⟩
end Go.Proofs.Ytigbmbmngkmdlaa.V
