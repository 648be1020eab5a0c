/-
  crc: a new Summer; Of; Bytes.
-/
import Derived.Test.YtagfplcafeblbaaCc
namespace Go.Proofs.Ytagfplcafeblbaa.C
open Go.RowKit Go.Proofs.Ytagfplcafeblbaa.L Go.Proofs.YtagfplcafeblbaaW.PrintWords

/-- the cells of a new Summer -/
def zc : Array Value := (SC 0 0 (List.replicate 256 0) 0).toArray
theorem SU_new (w : World) : SU w.heap.size 0 (w.alloc (.cells zc tS)) := .inr ⟨List.replicate 256 0, heap_alloc_new w _, List.length_replicate⟩
set_option maxHeartbeats 3200000 in
set_option maxRecDepth 100000 in
theorem of_any (l : List Nat) (A : Option Addr) (c : Nat) (w : World) (hC : (Kd.int .u8).C w A l.length (natB l)) (hl : ∀ x ∈ l, x < 256) :
    Calls Try.prog 26 #[.slice A l.length c] w fun e w' => e = .returned (.int .u32 (ofN l : Nat)) ∧ Below w.heap.size w w' := by
  have hb : Below w.heap.size w (w.alloc (.cells zc tS)) := (Below.refl _ _).alloc (Nat.le_refl _) _
  have HM := Lib.hid (more_any w.heap.size 0 0 l A c (w.alloc (.cells zc tS)) (SU_new w) ⟨by omega, by omega⟩ (by omega) (Kd.C_below hC hb) hl (fun h0 ad ha e => by
    rcases (B_open hC).2 with e1 | ⟨bo, off, e1, hbo, _⟩
    · subst e1; simp at h0
    · rw [e1] at ha
      injection ha with ha
      rw [← ha] at e
      have e2 : bo = w.heap.size := e
      omega))
  have HB := Lib.hid hb
  clear hC hl hb
  go_enter Try.func26, Try.ntmps26
  go_wp2_with fail
  refine (show Calls Try.prog _ _ (w.alloc (.cells zc tS)) _ from HM.out.mono ?_)
  rintro e w1 ⟨rfl, _, hg⟩
  have HG := Lib.hid hg
  clear hg
  go_wp2_with fail
  go_ret
  refine ⟨rfl, ?_⟩
  have hg := HG.out
  exact ⟨hg.os.trans HB.out.os, hg.tape.trans HB.out.tape, hg.output.trans HB.out.output, Nat.le_trans HB.out.size hg.size, fun k hk => (hg.block k (Nat.lt_of_lt_of_le hk HB.out.size) (fun e => by injection e with e; omega)).trans (HB.out.block k hk)⟩
set_option maxHeartbeats 3200000 in
set_option maxRecDepth 100000 in
theorem more_nil (s : Nat) (l : List Nat) (A : Option Addr) (c : Nat) (w : World) (hs : s < 4294967296) (hC : (Kd.int .u8).C w A l.length (natB l)) (hl : ∀ x ∈ l, x < 256) :
    Calls Try.prog 22 #[.pointer none, .int .u32 (s : Int), .slice A l.length c] w fun e w' => e = .returned (.int .u32 (sumN s l : Nat)) ∧ Below w.heap.size w w' := by
  have hmf : ∀ (fn : Fn) (first cap : Array Value) (w : World), (Instr.makeFunc fn first cap).run Try.prog w = .ok (.func fn first cap) w := fun _ _ _ _ => rfl
  obtain ⟨W, hW⟩ : ∃ W, W = w.alloc (.cells zc tS) := ⟨_, rfl⟩
  have hbW : Below w.heap.size w W := hW ▸ (Below.refl _ _).alloc (Nat.le_refl _) _
  have hsu : SU w.heap.size 0 W := hW ▸ SU_new w
  obtain ⟨b, hbb⟩ : ∃ b, w.heap.size = b := ⟨_, rfl⟩
  have hA : 0 < l.length → ∀ ad, A = some ad → ad.block ≠ b := fun h0 ad ha e => by
    rcases (B_open hC).2 with e1 | ⟨bo, off, e1, hbo, _⟩
    · subst e1; simp at h0
    · rw [e1] at ha
      injection ha with ha
      rw [← ha] at e
      have e2 : bo = b := e
      omega
  replace hC := Kd.C_below hC hbW
  have HBW := Lib.hid hbW
  rw [hbb] at hsu
  have HO := Lib.hid (once_any b 0 W hsu)
  have HBB := Lib.hid hbb
  clear hbW hsu hbb
  have HC := Lib.hid hC
  have HLb := Lib.hid hl
  have HA := Lib.hid hA
  have HR := Lib.hid (show (0 : Int) ≤ 0 ∧ (0 : Int) < 4611686018427387904 from by omega)
  have hlm := (B_open hC).1
  clear hC hl hA
  go_enter Try.func22, Try.ntmps22
  have HWW := Lib.hid hW
  clear hW
  go_wp2_with fail
  rw [HBB.out]
  refine (show Calls Try.prog _ _ (w.alloc (.cells zc tS)) _ from HWW.out ▸ HO.out.mono ?_)
  rintro e w1 ⟨rfl, hs1, hg1⟩
  have HS1 := Lib.hid hs1
  have HG1 := Lib.hid hg1
  clear hs1 hg1 HO
  go_wp2_with fail
  refine (add_any b 1 0 0 TT w1 HS1.out HR.out).mono ?_
  rintro e w2 ⟨rfl, hw2⟩
  have HS2 := Lib.hid (show SB b 1 0 TT (0 + 1) w2 from hw2 ▸ HS1.out.sr (0 + 1))
  have HG2 := Lib.hid (show W.grownBy w2 (some b) from HG1.out.trans (hw2 ▸ gset _ _ _ _))
  clear hw2 HS1 HG1
  have hn := not_u32 hs
  have hF : s ^^^ ff < 4294967296 := Nat.xor_lt_two_pow (n := 32) hs (by decide)
  go_wp2_with fail
  clear hn
  go_loopg [7, 28] (l.length + 1) (fun g v7 v28 w' => ∃ (i v : Nat), v28 = .int .i64 i ∧ v7 = .int .u32 v ∧ Hid (i ≤ l.length ∧ l.length < g + i) ∧ Hid (v = more (s ^^^ ff) (l.take i) ∧ v < 4294967296) ∧ Hid (w2 = w'))
  case atStart => exact ⟨0, _, rfl, rfl, Lib.hid ⟨by omega, by omega⟩, Lib.hid ⟨rfl, hF⟩, Lib.hid rfl⟩
  case round =>
    obtain ⟨i, v, rfl, rfl, HJ, HV, HW⟩ := hrel
    obtain rfl := HW.out
    clear HW
    cases gk with
    | zero => have := HJ.out; omega
    | succ k =>
      by_cases hlt : i < l.length
      · have HJ' := Lib.hid (show i < l.length ∧ l.length < (k + 1) + i from ⟨hlt, HJ.out.2⟩)
        rcases (B_open HC.out).2 with e | ⟨bo, off, rfl, hbo, hcells⟩
        · subst e; simp at hlt
        have hne := HA.out (by omega) _ rfl
        have c0 := (World.cell?_of_block (a := ⟨bo, off + i, none⟩) (HG2.out.block bo hbo (fun e => hne (by injection e)))).trans (hcells i hlt)
        have hx := HLb.out (l.getD i 0) (by rw [List.getD_eq_getElem?_getD, List.getElem?_eq_getElem hlt]; simp)
        have HT := Lib.hid (more_snoc (v := s ^^^ ff) hlt)
        clear hcells hbo hne HJ
        generalize l.getD i 0 = x at c0 hx HT
        have hv := HV.out.2
        have hv0 : (0 : Int) ≤ (v : Int) := by omega
        have hk : (v % 256) ^^^ x < 256 := Nat.xor_lt_two_pow (n := 8) (by omega) (by omega)
        have w8 : IntKind.u8.wrap (v : Int) = ((v % 256 : Nat) : Int) := by rw [IntKind.wrap_u8]; simp
        have e1 : bits .xor .u8 ((v % 256 : Nat) : Int) (x : Int) = (((v % 256) ^^^ x : Nat) : Int) := xor_u8 _ _ (by omega) (by omega)
        have e1' : bits .xor .u8 ((v : Int) % 256) (x : Int) = (((v % 256) ^^^ x : Nat) : Int) := by
          rw [show (v : Int) % 256 = ((v % 256 : Nat) : Int) from by simp]
          exact e1
        have HUP := Lib.hid (up_table v x)
        have HUL := Lib.hid (up_lt hv hx)
        obtain ⟨kk, hkk⟩ : ∃ kk, (v % 256) ^^^ x = kk := ⟨_, rfl⟩
        rw [hkk] at e1 e1' hk HUP
        have c1 := HS2.out.ct hk
        rw [TT_get hk] at c1
        have hi8 : it 8 kk < 4294967296 := it_lt 8 (by omega)
        have e2 : bits .xor .u32 ((v / 256 : Nat) : Int) ((it 8 kk : Nat) : Int) = ((up v x : Nat) : Int) := by rw [xor_u32 _ _ (by omega) hi8, HUP.out]
        have e3 : bits .xor .u32 ((v : Int) / 256) ((it 8 kk : Nat) : Int) = ((up v x : Nat) : Int) := by rw [show (v : Int) / 256 = ((v / 256 : Nat) : Int) from by simp]; exact e2
        have z1 : (0 : Int) ≤ (kk : Int) := by omega
        have z2 : (kk : Int) < 256 := by omega
        clear hkk hi8
        go_wp2_with fail
        go_roundg k
        case measure => have := HJ'.out; omega
        case rel => exact ⟨i + 1, up v x, by go_num, rfl, Lib.hid (by have := HJ'.out; omega), Lib.hid ⟨by rw [HT.out, ← HV.out.1], HUL.out⟩, Lib.hid rfl⟩
      · have hi : i = l.length := by have := HJ.out; omega
        have hn := not_u32 HV.out.2
        have hv := HV.out.1
        rw [hi, List.take_length] at hv
        have HVV := Lib.hid hv
        clear hv
        have hsg : IntKind.u32.signed = false := rfl
        go_wp2_with fail
        go_ret
        have e : sumN s l = v ^^^ ff := by unfold sumN; rw [← HVV.out]
        rw [e]
        refine ⟨rfl, ?_⟩
        have hg := HG2.out
        have hbb := HBB.out
        exact ⟨hg.os.trans HBW.out.os, hg.tape.trans HBW.out.tape, hg.output.trans HBW.out.output, Nat.le_trans HBW.out.size hg.size, fun k hk => (hg.block k (Nat.lt_of_lt_of_le hk HBW.out.size) (fun e => by injection e with e; omega)).trans (HBW.out.block k hk)⟩
theorem le4_get (x : Nat) : le4 x = [x % 256, x / 256 % 256, x / 65536 % 256, x / 16777216 % 256] := rfl
set_option maxHeartbeats 3200000 in
set_option maxRecDepth 100000 in
theorem bytes_any (s : Nat) (w : World) (hs : s < 4294967296) :
    Calls Try.prog 24 #[.int .u32 (s : Int)] w fun e w' => e = .returned (.agg #[.int .u8 ((s % 256 : Nat) : Int), .int .u8 ((s / 256 % 256 : Nat) : Int), .int .u8 ((s / 65536 % 256 : Nat) : Int), .int .u8 ((s / 16777216 % 256 : Nat) : Int)]) ∧ Below w.heap.size w w' := by
  have hs0 : (0 : Int) ≤ (s : Int) := by omega
  go_enter Try.func24, Try.ntmps24
  go_wp2_with fail
  refine wp_loop_rounds 5 ?_
  rw [rounds_succ]
  go_wp2_with fail
  rw [rounds_succ]
  go_wp2_with fail
  rw [rounds_succ]
  go_wp2_with fail
  rw [rounds_succ]
  go_wp2_with fail
  rw [rounds_succ]
  go_wp2_with fail
  go_outline
  exact bodyPost_ret (v := .agg #[.int .u8 ((s % 256 : Nat) : Int), .int .u8 ((s / 256 % 256 : Nat) : Int), .int .u8 ((s / 65536 % 256 : Nat) : Int), .int .u8 ((s / 16777216 % 256 : Nat) : Int)]) (by simp [results, Try.results24, go_sem]; omega) rfl ⟨rfl, ((Below.refl _ _).alloc (Nat.le_refl _) _).alloc (by simp) _⟩
end Go.Proofs.Ytagfplcafeblbaa.C
