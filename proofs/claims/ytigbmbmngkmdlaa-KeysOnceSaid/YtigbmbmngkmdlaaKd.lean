/-
  keys: what must come of fixed calls.
-/
import Derived.Test.YtigbmbmngkmdlaaKc
import Derived.Lib.SlBytesConst
namespace Go.Proofs.Ytigbmbmngkmdlaa.Ke
open Go.RowKit Go.Proofs.Ytigbmbmngkmdlaa.L Go.Proofs.YtigbmbmngkmdlaaW.PrintWords

/-- a row of bytes that is read, in a block of bytes -/
structure CT (w : World) (A : Option Addr) (l : List Int) : Prop where
  mk ::
  C : (Kd.int .u8).C w A l.length l
  T : Ty w 5 A
theorem CT.below {w w1 : World} {A : Option Addr} {l : List Int} (h : CT w A l) (hb : Below w.heap.size w w1) : CT w1 A l := ⟨Kd.C_below h.C hb, h.T.move (below_keep hb h.T)⟩
theorem CT.st {w w1 : World} {A : Option Addr} {l l' : List Int} {b : Nat} {n : Int} (h : CT w A l) (hS : St b n l' w) (hg : w.grownBy w1 (some b)) : CT w1 A l := by
  obtain ⟨_, _, hb, _⟩ := hS
  have hm := grown_keep hg h.T hb (by decide)
  exact ⟨C_move h.C hm, h.T.move hm⟩
theorem CT.sk {w w1 : World} {A : Option Addr} {l : List Int} {b : Nat} {n : Int} (h : CT w A l) (hS : Sk b n w) (hg : w.grownBy w1 (some b)) : CT w1 A l := by
  have hm := grown_keep hg h.T (show w.heap[b]? = _ from hS) (by decide)
  exact ⟨C_move h.C hm, h.T.move hm⟩
theorem bgrow {W w w1 : World} {b : Nat} (h : Below W.heap.size W w) (hg : w.grownBy w1 (some b)) (hb : W.heap.size ≤ b) : Below W.heap.size W w1 :=
  Below.grown h hg h.size (fun k hk => by injection hk with hk; omega)
theorem CT_lit {w : World} {l : List Int} {b : Nat} (h : w.heap[b]? = some (.cells (l.map (Value.int .u8)).toArray 5 (0, 0))) (hl : l.length ≤ maxLen) : CT w (some ⟨b, 0, none⟩) l := by
  have hR := R_of_blk h (Nat.zero_le _) hl
  obtain ⟨A, c, he, _, hC⟩ := Kd.R_reads hR
  injection he with he
  subst he
  exact ⟨hC, Ty_R hR⟩
theorem CT_marked {w : World} {l : List Int} {b : Nat} {fr : Nat × Nat} (h : w.heap[b]? = some (.cells (l.map (Value.int .u8)).toArray 5 fr)) (hl : l.length ≤ maxLen) : CT w (some ⟨b, 0, none⟩) l := by
  refine ⟨⟨rfl, hl, fun _ => ⟨_, rfl, fun j p hj => ⟨[.int .u8 p], rfl, rfl, fun i u hu => ?_⟩⟩⟩, fun ad ha => by injection ha with ha; subst ha; exact ⟨_, _, h⟩⟩
  have hi : i = 0 := by
    rcases Nat.eq_zero_or_pos i with h0 | h0
    · exact h0
    · rw [List.getElem?_eq_none (by simp; omega)] at hu; cases hu
  subst hi
  obtain rfl : Value.int .u8 p = u := by simpa using hu
  rw [show (Kd.int .u8).sz = 1 from rfl, add_at]
  simp [World.cell?, h, hj]
theorem stake_as (k : Nat) (kn fr : Int) (l : List Int) (L : List Int) (E K : Int) (A : Option Addr) (c : Nat) (w : World) (hR : stR kn fr l = (L, E, K)) (h : Sk k kn w) (hC : CT w A l) (hc : l.length ≤ c) (h0 : 0 ≤ kn) (h1 : kn + 1024 < 18446744073709551616) (hf : 0 ≤ fr) :
    Calls Try.prog 31 #[.pointer (some ⟨k, 0, none⟩), .int .u64 fr, .slice A l.length c] w fun e w' => ∃ v0 : Value, e = .returned (.tuple #[v0, .int .i64 E]) ∧ (Kd.int .u8).R 5 w' w.heap.size (fun _ => True) v0 L ∧ Sk k K w' ∧ w.grownBy w' (some k) := by
  have := stake_any k kn fr l A c w h hC.C hc h0 h1 hf
  rwa [hR] at this

set_option maxHeartbeats 3200000 in
set_option maxRecDepth 100000 in
theorem alive_any (w : World) : Calls Try.prog 23 #[] w fun e w' => e = .returned (.bool true) ∧ Below w.heap.size w w' := by
  go_enter Try.func23, Try.ntmps23
  go_wp2_with fail
  refine (new_any _).mono ?_
  rintro e w1 ⟨bs, rfl, hs1, hl1, hb1⟩
  have HS := Lib.hid hs1.st
  have HLs := Lib.hid hl1
  have HB := Lib.hid hb1
  clear hs1 hl1 hb1
  go_wp2_with fail
  refine (sink_any _).mono ?_
  rintro e w2 ⟨bk, rfl, hk2, hl2, hb2⟩
  have HLk := Lib.hid (Nat.le_trans HB.out.size hl2)
  replace HS := Lib.hid (HS.out.below hb2)
  replace HB := Lib.hid (stay1 HB.out hb2)
  have HK := Lib.hid hk2
  clear hk2 hl2 hb2
  have kc := fun (w : World) (C : Array Value) (n c : Nat) => Lib.run_convert_bytes_const (P := Try.prog) w 25 5 C n c Try.underlying25 Try.underlying5
  obtain ⟨w3, hw3⟩ : ∃ w3, w3 = w2.alloc (.cells #[.int .u8 97, .int .u8 98] 5 (2, 3)) := ⟨_, rfl⟩
  have hb3 : Below w2.heap.size w2 w3 := by rw [hw3]; exact (Below.refl _ _).alloc (Nat.le_refl _) _
  have HAB := Lib.hid (show CT w3 (some ⟨w2.heap.size, 0, none⟩) [97, 98] from by rw [hw3]; exact CT_marked (l := [97, 98]) (heap_alloc_new w2 _) (by decide))
  replace HS := Lib.hid (HS.out.below hb3)
  replace HB := Lib.hid (stay1 HB.out hb3)
  replace HK := Lib.hid (HK.out.below hb3)
  clear hb3
  go_wp2_with fail
  rw [← hw3]
  clear hw3 kc
  refine (type_yes bs 0 [] [97, 98] _ 2 _ _ HS.out rfl (by decide) (by decide) HAB.out.C).mono ?_
  rintro e w4 ⟨rfl, hs4, hg4⟩
  replace HB := Lib.hid (bgrow HB.out hg4 HLs.out)
  replace HK := Lib.hid (HK.out.stream HS.out hg4)
  replace HAB := Lib.hid (HAB.out.st HS.out hg4)
  replace HS := Lib.hid hs4
  clear hs4 hg4
  go_wp2_with fail
  refine (pending_any bs 0 [97, 98] _ HS.out (by decide)).mono ?_
  rintro e w5 ⟨v5p, rfl, ho5p, hb5⟩
  replace HS := Lib.hid (HS.out.below hb5)
  replace HB := Lib.hid (stay1 HB.out hb5)
  replace HK := Lib.hid (HK.out.below hb5)
  replace HAB := Lib.hid (HAB.out.below hb5)
  obtain ⟨Ap, cp, rfl, hkp, hCp⟩ := Kd.R_reads ho5p
  have HP := Lib.hid (CT.mk hCp (Ty_R ho5p))
  have KHP := Lib.hid hkp
  clear ho5p hCp hkp
  clear hb5
  go_wp2_with fail
  refine (stake_as bk 0 0 [97, 98] [97, 98] 0 2 _ _ _ (by decide) HK.out HP.out KHP.out (by decide) (by decide) (by decide)).mono ?_
  rintro e w6 ⟨v6x, rfl, ho6x, hs6, hg6⟩
  replace HS := Lib.hid (HS.out.sink HK.out hg6)
  replace HB := Lib.hid (bgrow HB.out hg6 HLk.out)
  replace HAB := Lib.hid (HAB.out.sk HK.out hg6)
  replace HP := Lib.hid (HP.out.sk HK.out hg6)
  replace HK := Lib.hid hs6
  obtain ⟨Ax, cx, rfl, hkx, hCx⟩ := Kd.R_reads ho6x
  have HX := Lib.hid (CT.mk hCx (Ty_R ho6x))
  have KHX := Lib.hid hkx
  clear ho6x hCx hkx
  clear hs6 hg6
  go_wp2_with fail
  refine (stake_as bk 2 0 [97, 98] [] 0 2 _ _ _ (by decide) HK.out HP.out KHP.out (by decide) (by decide) (by decide)).mono ?_
  rintro e w7 ⟨v7y, rfl, ho7y, hs7, hg7⟩
  replace HS := Lib.hid (HS.out.sink HK.out hg7)
  replace HB := Lib.hid (bgrow HB.out hg7 HLk.out)
  replace HAB := Lib.hid (HAB.out.sk HK.out hg7)
  replace HP := Lib.hid (HP.out.sk HK.out hg7)
  replace HX := Lib.hid (HX.out.sk HK.out hg7)
  replace HK := Lib.hid hs7
  obtain ⟨Ay, cy, rfl, hky, hCy⟩ := Kd.R_reads ho7y
  have HY := Lib.hid (CT.mk hCy (Ty_R ho7y))
  have KHY := Lib.hid hky
  clear ho7y hCy hky
  clear hs7 hg7
  go_wp2_with fail
  refine (stake_as bk 2 5 [97, 98] [] 30 2 _ _ _ (by decide) HK.out HP.out KHP.out (by decide) (by decide) (by decide)).mono ?_
  rintro e w8 ⟨v8z, rfl, ho8z, hs8, hg8⟩
  replace HS := Lib.hid (HS.out.sink HK.out hg8)
  replace HB := Lib.hid (bgrow HB.out hg8 HLk.out)
  replace HAB := Lib.hid (HAB.out.sk HK.out hg8)
  replace HP := Lib.hid (HP.out.sk HK.out hg8)
  replace HX := Lib.hid (HX.out.sk HK.out hg8)
  replace HY := Lib.hid (HY.out.sk HK.out hg8)
  replace HK := Lib.hid hs8
  obtain ⟨Az, cz, rfl, hkz, hCz⟩ := Kd.R_reads ho8z
  have HZ := Lib.hid (CT.mk hCz (Ty_R ho8z))
  have KHZ := Lib.hid hkz
  clear ho8z hCz hkz
  clear hs8 hg8
  have hcv : (convert 25 9 (.slice Ax 2 cx)).run Try.prog w8 = .ok (.string ⟨#[97, 98]⟩) w8 := Kd.C_string (P := Try.prog) (src := 25) (dst := 9) (e := 5) (c := cx) Try.underlying25 Try.underlying5 Try.underlying9 HX.out.C
  go_wp2_with fail
  refine (ack_ok bs 0 2 [97, 98] _ HS.out (by decide) (by decide) (by decide) (by decide) (by decide)).mono ?_
  rintro e w9 ⟨rfl, hs9, hg9⟩
  replace HB := Lib.hid (bgrow HB.out hg9 HLs.out)
  replace HK := Lib.hid (HK.out.stream HS.out hg9)
  replace HAB := Lib.hid (HAB.out.st HS.out hg9)
  replace HP := Lib.hid (HP.out.st HS.out hg9)
  replace HX := Lib.hid (HX.out.st HS.out hg9)
  replace HY := Lib.hid (HY.out.st HS.out hg9)
  replace HZ := Lib.hid (HZ.out.st HS.out hg9)
  replace HS := Lib.hid hs9
  clear hs9 hg9
  clear hcv
  go_wp2_with fail
  refine (ack_old bs 2 1 _ _ HS.out (by decide)).mono ?_
  rintro e wx ⟨rfl, rfl⟩
  go_wp2_with fail
  refine (ack_arg bs 2 3 _ _ HS.out (by decide) (by decide) (by decide)).mono ?_
  rintro e w10 ⟨rfl, hb10⟩
  replace HS := Lib.hid (HS.out.below hb10)
  replace HB := Lib.hid (stay1 HB.out hb10)
  replace HK := Lib.hid (HK.out.below hb10)
  replace HAB := Lib.hid (HAB.out.below hb10)
  replace HP := Lib.hid (HP.out.below hb10)
  replace HX := Lib.hid (HX.out.below hb10)
  replace HY := Lib.hid (HY.out.below hb10)
  replace HZ := Lib.hid (HZ.out.below hb10)
  clear hb10
  go_wp2_with fail
  refine (count_any bs 2 _ _ HS.out (by decide) (by decide)).mono ?_
  rintro e w11 ⟨rfl, hb11⟩
  replace HS := Lib.hid (HS.out.below hb11)
  replace HB := Lib.hid (stay1 HB.out hb11)
  replace HK := Lib.hid (HK.out.below hb11)
  replace HAB := Lib.hid (HAB.out.below hb11)
  replace HP := Lib.hid (HP.out.below hb11)
  replace HX := Lib.hid (HX.out.below hb11)
  replace HY := Lib.hid (HY.out.below hb11)
  replace HZ := Lib.hid (HZ.out.below hb11)
  clear hb11
  go_wp2
  go_ret
  exact ⟨rfl, HB.out⟩
end Go.Proofs.Ytigbmbmngkmdlaa.Ke
