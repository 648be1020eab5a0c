/-
  frag: Split.
-/
import Derived.Test.YthgdbdhonhkkpaaGa
namespace Go.Proofs.Ythgdbdhonhkkpaa.Fg
open Go.RowKit Go.Proofs.Ythgdbdhonhkkpaa.L Go.Proofs.Ythgdbdhonhkkpaa.V Go.Proofs.YthgdbdhonhkkpaaW.PrintWords

/-- s[lo:hi:hi] -/
theorem cut3 {P : Program} (k : IntKind) (t e : TypeId) {i : TypeInfo} (ht : P.underlying t = some (.slice e)) (hi : P.info? e = some i) (hsz : i.size = 1) (A : Option Addr) (n c : Nat) (lo' : Int) (lo up : Nat) (h0 : lo' = (lo : Int)) (h1 : lo ≤ up) (h2 : up ≤ n) (hc : n ≤ c) :
    ∃ A', (∀ W : World, (Instr.slice t (.slice A n c) (some (.int .i64 lo')) (some (.int .i64 up)) (some (.int .i64 up))).run P W = .ok (.slice A' (up - lo) (up - lo)) W) ∧
      ∀ (W : World) (l : List Int), l.length = n → (Kd.int k).C W A l.length l → (Kd.int k).C W A' (up - lo) ((l.take up).drop lo) ∧ ((l.take up).drop lo).length = up - lo := by
  subst h0
  refine ⟨if up = lo then A else A.map (·.add (lo * 1)), fun W => ?_, fun W l hl hC => ?_⟩
  · have hel : P.elem t = e := by simp [Program.elem, ht]
    have hu : P.underlying t = some (.slice (P.elem t)) := by rw [hel]; exact ht
    have h3 : (0 : Int) ≤ (lo : Int) := by omega
    have h4 : (lo : Int) ≤ (up : Int) := by omega
    have h5 : (0 : Int) ≤ (up : Int) := by omega
    have h6 : (up : Int) ≤ (c : Int) := by omega
    have e1 : ∀ a : Addr, Addr.add a 0 = a := fun a => by simp [Addr.add]
    simp [Instr.slice, run_underlying ht, Instr.sliceBounds, Instr.sliceBound, asIntOf, h1, (show up ≤ c by omega), sizeOf, typeInfo, hi, hsz, Result.andThen]
  · have hlen : ((l.take up).drop lo).length = up - lo := by simp; omega
    refine ⟨?_, hlen⟩
    by_cases he : up = lo
    · rw [if_pos he]
      have hm := Kd.C_max hC
      exact ⟨hlen, by omega, fun h => by omega⟩
    · rw [if_neg he]
      have h := Kd.C_mid (lo := lo) (hi := up) hC h1 (by omega) (c := c) (by omega)
      rw [if_neg (by omega), hlen] at h
      exact h
def cntN (n : Nat) : Nat := if n ≤ 480 then 1 else (n + 479) / 480
def partZ (id : Int) (l : List Int) (c j : Nat) : Pt := (id, (j : Int), (c : Int), (l.take (min ((j + 1) * 480) l.length)).drop (j * 480))
def partsZ (id : Int) (l : List Int) (c i : Nat) : List Pt := (List.range i).map (partZ id l c)
theorem partsZ_succ (id : Int) (l : List Int) (c i : Nat) : partsZ id l c (i + 1) = partsZ id l c i ++ [partZ id l c i] := by simp [partsZ, List.range_succ]
theorem partsZ_len (id : Int) (l : List Int) (c i : Nat) : (partsZ id l c i).length = i := by simp [partsZ]
def spE (id : Int) (l : List Int) : Int := if 24000 < l.length then 2 else if idB id then 0 else 1
def spL (id : Int) (l : List Int) : List Pt := if 24000 < l.length then [] else if idB id then partsZ id l (cntN l.length) (cntN l.length) else []
theorem cnt_cast {n : Nat} (h : n ≤ 24000) : countZ (n : Int) = (cntN n : Int) := by
  unfold countZ cntN
  rw [if_neg (by omega)]
  split <;> split <;> omega
theorem cnt_bounds {n : Nat} (h : n ≤ 24000) : 1 ≤ cntN n ∧ cntN n ≤ 50 ∧ n ≤ cntN n * 480 ∧ (cntN n - 1) * 480 ≤ n := by
  unfold cntN
  split <;> omega
set_option maxRecDepth 100000 in
set_option maxHeartbeats 1600000 in
theorem split_any (id : Int) (l : List Int) (A : Option Addr) (c : Nat) (w : World) (hC : (Kd.int .u8).C w A l.length l) (hc : l.length ≤ c) :
    Calls Try.prog 17 #[.int .u64 id, .slice A l.length c] w fun e w' => ∃ v, e = .returned (.tuple #[v, .int .i64 (spE id l)]) ∧ kP.R 38 w' w.heap.size (fun _ => True) v (spL id l) ∧ Below w.heap.size w w' := by
  have hm := Kd.C_max hC
  by_cases h0 : 24000 < l.length
  · have e1 : countZ (l.length : Int) = 0 := if_pos (.inr (by omega))
    have hq := count_any (l.length : Int) w
    rw [e1] at hq
    have HQ := Lib.hid hq
    have HE := Lib.hid (show spE id l = 2 from if_pos h0)
    have HL := Lib.hid (show spL id l = [] from if_pos h0)
    clear e1 hq hC h0
    go_enter Try.func17, Try.ntmps17
    go_wp2_with (go_at_call 23; refine HQ.out.mono ?_; rintro e w1 ⟨rfl, hw1⟩; (rw [hw1]); clear hw1 w1)
    go_ret2
    exact ⟨_, by rw [HE.out]; rfl, by rw [HL.out]; exact Kd.R_nil _ _ _ _ _, Below.refl _ _⟩
  obtain ⟨q, hq⟩ : ∃ q, cntN l.length = q := ⟨_, rfl⟩
  obtain ⟨b1, b2, b3, b4⟩ := cnt_bounds (show l.length ≤ 24000 by omega)
  have hqc := count_any (l.length : Int) w
  rw [cnt_cast (by omega), hq] at hqc
  rw [hq] at b1 b2 b3 b4
  have t0 : ((q : Int) == 0) = false := by rw [beq_eq_false_iff_ne]; omega
  have t0n : (q == 0) = false := by rw [beq_eq_false_iff_ne]; omega
  have HQ := Lib.hid hqc
  by_cases h1 : idB id = true
  · have HE := Lib.hid (show spE id l = 0 from by unfold spE; rw [if_neg h0, if_pos h1])
    have HL := Lib.hid (show spL id l = partsZ id l q q from by unfold spL; rw [if_neg h0, if_pos h1, hq])
    have hi := isid_any id w
    rw [h1] at hi
    have HI := Lib.hid hi
    have HC := Lib.hid hC
    have HBd := Lib.hid (show 1 ≤ q ∧ q ≤ 50 ∧ l.length ≤ q * 480 ∧ (q - 1) * 480 ≤ l.length ∧ l.length ≤ 24000 ∧ l.length ≤ c from ⟨b1, b2, b3, b4, by omega, hc⟩)
    have z1 : (q : Int) ≤ 50 := by omega
    have z2 : (l.length : Int) ≤ 24000 := by omega
    clear hqc h0 h1 hi hC hq b1 b2 b3 b4 hc
    go_enter Try.func17, Try.ntmps17
    go_wp2_with (first | (go_at_call 23; refine HQ.out.mono ?_; rintro e w1 ⟨rfl, hw1⟩; (rw [hw1]); clear hw1 w1 HQ) | (go_at_call 55; refine HI.out.mono ?_; rintro e w1 ⟨rfl, hw1⟩; (rw [hw1]); clear hw1 w1 HI))
    go_loopg [7, 22] (q + 1) (fun g v7 v22 w' => ∃ i : Nat, v22 = .int .i64 i ∧ Hid (i ≤ q ∧ q < g + i) ∧ Hid (kP.R 38 w' w.heap.size (fun _ => True) v7 (partsZ id l q i)) ∧ Hid (Below w.heap.size w w'))
    case atStart => exact ⟨0, rfl, Lib.hid ⟨by omega, by omega⟩, Lib.hid (Kd.R_nil _ _ _ _ _), Lib.hid (Below.refl _ _)⟩
    case round =>
      obtain ⟨i, rfl, HJ, HR, HB⟩ := hrel
      cases gk with
      | zero => have := HJ.out; omega
      | succ k =>
        by_cases hlt : i < q
        · have HJ' := Lib.hid (show i < q ∧ q < (k + 1) + i from ⟨hlt, HJ.out.2⟩)
          have z3 : (i : Int) < (q : Int) := by omega
          have z4 : (0 : Int) ≤ (i : Int) := by omega
          have hup : i * 480 ≤ min ((i + 1) * 480) l.length := by have := HBd.out; omega
          obtain ⟨i8, hi8, hs8⟩ := info_of S.info_u8
          obtain ⟨A', hr, hCc⟩ := cut3 .u8 23 5 Try.underlying23 hi8 hs8 A l.length c ((i : Int) * 480) (i * 480) (min ((i + 1) * 480) l.length) (by omega) hup (by omega) HBd.out.2.2.2.2.2
          have hC1 := hCc wr l rfl (Kd.C_below HC.out HB.out)
          have hpz : partZ id l q i = (id, (i : Int), (q : Int), (l.take (min ((i + 1) * 480) l.length)).drop (i * 480)) := rfl
          obtain ⟨d, hd⟩ : ∃ d, (l.take (min ((i + 1) * 480) l.length)).drop (i * 480) = d := ⟨_, rfl⟩
          obtain ⟨u, hu⟩ : ∃ u, min ((i + 1) * 480) l.length = u := ⟨_, rfl⟩
          have hu2 : u ≤ l.length ∧ u ≤ (i + 1) * 480 := by omega
          rw [hu] at hr hC1 hup
          have hcl := S.clone_n d (u - i * 480) (by rw [← hd, hu]; exact hC1.2) A' (u - i * 480) wr (by rw [← hd, hu]; exact hC1.1) (by omega)
          rw [hd] at hpz
          have HCl := Lib.hid hcl
          have HPz := Lib.hid hpz
          clear hcl hpz hC1 hCc hi8 hs8 HJ hd hlt
          by_cases hmin : ((i : Int) + 1) * 480 ≤ (l.length : Int)
          · have hue : ((i : Int) + 1) * 480 = (u : Int) := by omega
            clear hu hu2 hup
            go_wp2_with (first | (go_at_call 56; refine HCl.out.mono ?_; rintro e w2 ⟨v0, rfl, hv0, hb2⟩; obtain ⟨A0, c0, rfl⟩ := Kd.R_slice hv0; (have HV0 := Lib.hid hv0); (have HB2 := Lib.hid hb2); clear hv0 hb2 HCl) | (at_builtin; refine appk kP (w0 := w) (W := w2) w.heap.size wr.heap.size (.tmp 33) (.tmp 44) 24 38 (.agg #[.int .u64 0, .int .i64 0, .int .i64 0, .slice none 0 0]) 48 rfl rfl Try.underlying24 info_P rfl (by show 0 < 4; decide) (by decide) u7 (partsZ id l q i) (id, (i : Int), (q : Int), d) [.int .u64 id, .int .i64 i, .int .i64 q, .slice A0 d.length c0] rfl rfl ⟨[_], _, rfl, rfl, [_], _, rfl, rfl, [_], _, rfl, rfl, _, rfl, R_up HV0.out HB.out.size⟩ (Kd.R_lt HR.out) (Kd.R_below HR.out HB2.out) (HB.out.trans (HB2.out.mono HB.out.size)) (Nat.le_trans HB.out.size HB2.out.size) (by rw [partsZ_len]; have := HJ'.out; have := HBd.out; omega) ?_; intro v4 w4 hr4 hb4 _; (have HR4 := Lib.hid hr4); (have HB4 := Lib.hid hb4); clear hr4 hb4))
            go_roundg k
            case measure => have := HJ'.out; omega
            case rel => exact ⟨i + 1, by go_num, Lib.hid (by have := HJ'.out; omega), Lib.hid (by rw [partsZ_succ, HPz.out]; exact HR4.out), HB4⟩
          · obtain rfl : u = l.length := by omega
            clear hu hu2 hup
            go_wp2_with (first | (go_at_call 56; refine HCl.out.mono ?_; rintro e w2 ⟨v0, rfl, hv0, hb2⟩; obtain ⟨A0, c0, rfl⟩ := Kd.R_slice hv0; (have HV0 := Lib.hid hv0); (have HB2 := Lib.hid hb2); clear hv0 hb2 HCl) | (at_builtin; refine appk kP (w0 := w) (W := w2) w.heap.size wr.heap.size (.tmp 33) (.tmp 44) 24 38 (.agg #[.int .u64 0, .int .i64 0, .int .i64 0, .slice none 0 0]) 48 rfl rfl Try.underlying24 info_P rfl (by show 0 < 4; decide) (by decide) u7 (partsZ id l q i) (id, (i : Int), (q : Int), d) [.int .u64 id, .int .i64 i, .int .i64 q, .slice A0 d.length c0] rfl rfl ⟨[_], _, rfl, rfl, [_], _, rfl, rfl, [_], _, rfl, rfl, _, rfl, R_up HV0.out HB.out.size⟩ (Kd.R_lt HR.out) (Kd.R_below HR.out HB2.out) (HB.out.trans (HB2.out.mono HB.out.size)) (Nat.le_trans HB.out.size HB2.out.size) (by rw [partsZ_len]; have := HJ'.out; have := HBd.out; omega) ?_; intro v4 w4 hr4 hb4 _; (have HR4 := Lib.hid hr4); (have HB4 := Lib.hid hb4); clear hr4 hb4))
            go_roundg k
            case measure => have := HJ'.out; omega
            case rel => exact ⟨i + 1, by go_num, Lib.hid (by have := HJ'.out; omega), Lib.hid (by rw [partsZ_succ, HPz.out]; exact HR4.out), HB4⟩
        · have hi : i = q := by have := HJ.out; omega
          subst hi
          go_wp2_with fail
          go_ret2
          exact ⟨_, by rw [HE.out]; rfl, by rw [HL.out]; exact HR.out, HB.out⟩
  · have h1' : idB id = false := by simpa using h1
    have HE := Lib.hid (show spE id l = 1 from by unfold spE; rw [if_neg h0, if_neg h1])
    have HL := Lib.hid (show spL id l = [] from by unfold spL; rw [if_neg h0, if_neg h1])
    have hi := isid_any id w
    rw [h1'] at hi
    have HI := Lib.hid hi
    clear hqc h0 h1 h1' hi hC hq b1 b2 b3 b4 hc
    go_enter Try.func17, Try.ntmps17
    go_wp2_with (first | (go_at_call 23; refine HQ.out.mono ?_; rintro e w1 ⟨rfl, hw1⟩; (rw [hw1]); clear hw1 w1 HQ) | (go_at_call 55; refine HI.out.mono ?_; rintro e w1 ⟨rfl, hw1⟩; (rw [hw1]); clear hw1 w1 HI))
    go_ret2
    exact ⟨_, by rw [HE.out]; rfl, by rw [HL.out]; exact Kd.R_nil _ _ _ _ _, Below.refl _ _⟩
end Go.Proofs.Ythgdbdhonhkkpaa.Fg
