/-
  crc: More, Runs, Of.
-/
import Derived.Test.YtagfplcafeblbaaCb
namespace Go.Proofs.Ytagfplcafeblbaa.C
open Go.RowKit Go.Proofs.Ytagfplcafeblbaa.L Go.Proofs.YtagfplcafeblbaaW.PrintWords

/-- bytes, as the machine has them -/
def natB (l : List Nat) : List Int := l.map (fun x : Nat => (x : Int))
theorem natB_length (l : List Nat) : (natB l).length = l.length := by simp [natB]
theorem natB_get {l : List Nat} {j : Nat} (h : j < l.length) : (natB l).getD j 0 = ((l.getD j 0 : Nat) : Int) := by
  unfold natB
  rw [List.getD_eq_getElem?_getD, List.getElem?_map, List.getD_eq_getElem?_getD, List.getElem?_eq_getElem h]
  rfl
theorem B_open {w : World} {A : Option Addr} {l : List Nat} (h : (Kd.int .u8).C w A l.length (natB l)) :
    l.length ≤ 9223372036854775807 ∧ (l = [] ∨ ∃ b off, A = some ⟨b, off, none⟩ ∧ b < w.heap.size ∧ ∀ j, j < l.length → w.cell? ⟨b, off + j, none⟩ = some (.int .u8 (l.getD j 0 : Nat))) := by
  rw [← natB_length] at h ⊢
  obtain ⟨h1, h2⟩ := C_open h
  refine ⟨h1, ?_⟩
  rcases h2 with h2 | ⟨b, off, e, hb, hc⟩
  · exact .inl (by simpa [natB] using h2)
  · refine .inr ⟨b, off, e, hb, fun j hj => ?_⟩
    have := hc j hj
    rwa [natB_get (by rwa [natB_length] at hj)] at this
/-- a Summer, used or not -/
def SU (b : Nat) (r : Int) (w : World) : Prop := SB b 1 0 TT r w ∨ ∃ tbl, SB b 0 0 tbl r w
theorem SU.keep {b : Nat} {r : Int} {w w1 : World} (h : SU b r w) (hm : w1.heap[b]? = w.heap[b]?) : SU b r w1 := by
  rcases h with h | ⟨t, h⟩
  · exact .inl (h.keep hm)
  · exact .inr ⟨t, h.keep hm⟩
theorem SU.lt {b : Nat} {r : Int} {w : World} (h : SU b r w) : b < w.heap.size := by
  rcases h with h | ⟨t, h⟩
  · exact h.lt
  · exact h.lt
theorem once_any (b : Nat) (r : Int) (w : World) (h : SU b r w) :
    Calls Try.prog 44 #[.pointer (some ⟨b, 0, none⟩), fillV b] w fun e w' => e = .returned (.tuple #[]) ∧ SB b 1 0 TT r w' ∧ w.grownBy w' (some b) := by
  rcases h with h | ⟨t, h⟩
  · exact (do_done b r 0 TT _ w h).mono fun e w' ⟨h1, h2⟩ => ⟨h1, h2 ▸ h, h2 ▸ World.grownBy.refl _ _⟩
  · exact do_first b r t w h
set_option maxRecDepth 100000 in
set_option maxHeartbeats 800000 in
theorem add_any (b : Nat) (dn st r : Int) (tbl : List Nat) (w : World) (h : SB b dn st tbl r w) (hr : 0 ≤ r ∧ r < 4611686018427387904) :
    Calls Try.prog 46 #[.pointer (some ⟨b, 259, none⟩), .int .i64 1] w fun e w' => e = .returned (.int .i64 (r + 1)) ∧ w' = w.setCell ⟨b, 259, none⟩ (.int .i64 (r + 1)) := by
  have hadd := run_call_add (P := Try.prog) Try.func61 (by kernel_rfl) (by kernel_rfl) (by kernel_rfl) .i64 (by kernel_rfl) (y := 1) (s := r + 1) h.cr (h.fz 259) (by
    have : IntKind.i64.wrap (r + 1) = r + 1 := IntWalk.i64_in _ (by omega)
    simp [go_sem, this])
  clear h
  go_enter Try.func46, Try.ntmps46
  go_wp2
  go_ret
  exact ⟨rfl, rfl⟩
set_option maxRecDepth 100000 in
set_option maxHeartbeats 800000 in
theorem runs_any (b : Nat) (r : Int) (w : World) (h : SU b r w) : Calls Try.prog 25 #[.pointer (some ⟨b, 0, none⟩)] w fun e w' => e = .returned (.int .i64 r) ∧ w' = w := by
  have hc : w.cell? ⟨b, 259, none⟩ = some (.int .i64 r) := by
    rcases h with h | ⟨t, h⟩
    · exact h.cr
    · exact h.cr
  have hl := run_call_load (P := Try.prog) Try.func62 (by kernel_rfl) (by kernel_rfl) (by kernel_rfl) .i64 (by kernel_rfl) hc
  clear h
  go_enter Try.func25, Try.ntmps25
  go_wp2_with (first | (go_at_call 47; go_in))
  go_ret
  exact ⟨rfl, rfl⟩
set_option maxHeartbeats 400000 in
theorem runs_nil (w : World) : Calls Try.prog 25 #[.pointer none] w fun e w' => e = .returned (.int .i64 0) ∧ w' = w := by
  go_enter Try.func25, Try.ntmps25
  go_wp2
  go_ret
  exact ⟨rfl, rfl⟩
theorem more_snoc {v : Nat} {l : List Nat} {i : Nat} (h : i < l.length) : more v (l.take (i + 1)) = up (more v (l.take i)) (l.getD i 0) := by
  rw [List.take_succ_eq_append_getElem h, more_app, List.getD_eq_getElem?_getD, List.getElem?_eq_getElem h]
  rfl
theorem not_u32 {x : Nat} (h : x < 4294967296) : bits .xor .u32 IntKind.u32.max (x : Int) = ((x ^^^ ff : Nat) : Int) := by
  have := xor_u32 ff x (by decide) h
  rw [Nat.xor_comm] at this
  exact this

set_option maxHeartbeats 3200000 in
set_option maxRecDepth 100000 in
theorem more_any (b : Nat) (r : Int) (s : Nat) (l : List Nat) (A : Option Addr) (c : Nat) (w : World) (h : SU b r w) (hr : 0 ≤ r ∧ r < 4611686018427387904) (hs : s < 4294967296) (hC : (Kd.int .u8).C w A l.length (natB l)) (hl : ∀ x ∈ l, x < 256)
    (hA : 0 < l.length → ∀ ad, A = some ad → ad.block ≠ b) :
    Calls Try.prog 22 #[.pointer (some ⟨b, 0, none⟩), .int .u32 (s : Int), .slice A l.length c] w fun e w' => e = .returned (.int .u32 (sumN s l : Nat)) ∧ SU b (r + 1) w' ∧ w.grownBy w' (some b) := by
  have hmf : ∀ (fn : Fn) (first cap : Array Value) (w : World), (Instr.makeFunc fn first cap).run Try.prog w = .ok (.func fn first cap) w := fun _ _ _ _ => rfl
  have HO := Lib.hid (once_any b r w h)
  have HC := Lib.hid hC
  have HLb := Lib.hid hl
  have HA := Lib.hid hA
  have HR := Lib.hid hr
  have hlm := (B_open hC).1
  clear h hC hl hA hr
  go_enter Try.func22, Try.ntmps22
  go_wp2_with fail
  refine HO.out.mono ?_
  rintro e w1 ⟨rfl, hs1, hg1⟩
  have HS1 := Lib.hid hs1
  have HG1 := Lib.hid hg1
  clear hs1 hg1 HO
  go_wp2_with fail
  refine (add_any b 1 0 r TT w1 HS1.out HR.out).mono ?_
  rintro e w2 ⟨rfl, hw2⟩
  have HS2 := Lib.hid (show SB b 1 0 TT (r + 1) w2 from hw2 ▸ HS1.out.sr (r + 1))
  have HG2 := Lib.hid (show w.grownBy w2 (some b) from HG1.out.trans (hw2 ▸ gset _ _ _ _))
  clear hw2 HS1 HG1
  have hn := not_u32 hs
  have hF : s ^^^ ff < 4294967296 := Nat.xor_lt_two_pow (n := 32) hs (by decide)
  go_wp2_with fail
  clear hn
  go_loopg [7, 28] (l.length + 1) (fun g v7 v28 w' => ∃ (i v : Nat), v28 = .int .i64 i ∧ v7 = .int .u32 v ∧ Hid (i ≤ l.length ∧ l.length < g + i) ∧ Hid (v = more (s ^^^ ff) (l.take i) ∧ v < 4294967296) ∧ Hid (w2 = w'))
  case atStart => exact ⟨0, _, rfl, rfl, Lib.hid ⟨by omega, by omega⟩, Lib.hid ⟨rfl, hF⟩, Lib.hid rfl⟩
  case round =>
    obtain ⟨i, v, rfl, rfl, HJ, HV, HW⟩ := hrel
    obtain rfl := HW.out
    clear HW
    cases gk with
    | zero => have := HJ.out; omega
    | succ k =>
      by_cases hlt : i < l.length
      · have HJ' := Lib.hid (show i < l.length ∧ l.length < (k + 1) + i from ⟨hlt, HJ.out.2⟩)
        rcases (B_open HC.out).2 with e | ⟨bo, off, rfl, hbo, hcells⟩
        · subst e; simp at hlt
        have hne := HA.out (by omega) _ rfl
        have c0 := (World.cell?_of_block (a := ⟨bo, off + i, none⟩) (HG2.out.block bo hbo (fun e => hne (by injection e)))).trans (hcells i hlt)
        have hx := HLb.out (l.getD i 0) (by rw [List.getD_eq_getElem?_getD, List.getElem?_eq_getElem hlt]; simp)
        have HT := Lib.hid (more_snoc (v := s ^^^ ff) hlt)
        clear hcells hbo hne HJ
        generalize l.getD i 0 = x at c0 hx HT
        have hv := HV.out.2
        have hv0 : (0 : Int) ≤ (v : Int) := by omega
        have hk : (v % 256) ^^^ x < 256 := Nat.xor_lt_two_pow (n := 8) (by omega) (by omega)
        have w8 : IntKind.u8.wrap (v : Int) = ((v % 256 : Nat) : Int) := by rw [IntKind.wrap_u8]; simp
        have e1 : bits .xor .u8 ((v % 256 : Nat) : Int) (x : Int) = (((v % 256) ^^^ x : Nat) : Int) := xor_u8 _ _ (by omega) (by omega)
        have e1' : bits .xor .u8 ((v : Int) % 256) (x : Int) = (((v % 256) ^^^ x : Nat) : Int) := by
          rw [show (v : Int) % 256 = ((v % 256 : Nat) : Int) from by simp]
          exact e1
        have HUP := Lib.hid (up_table v x)
        have HUL := Lib.hid (up_lt hv hx)
        obtain ⟨kk, hkk⟩ : ∃ kk, (v % 256) ^^^ x = kk := ⟨_, rfl⟩
        rw [hkk] at e1 e1' hk HUP
        have c1 := HS2.out.ct hk
        rw [TT_get hk] at c1
        have hi8 : it 8 kk < 4294967296 := it_lt 8 (by omega)
        have e2 : bits .xor .u32 ((v / 256 : Nat) : Int) ((it 8 kk : Nat) : Int) = ((up v x : Nat) : Int) := by rw [xor_u32 _ _ (by omega) hi8, HUP.out]
        have e3 : bits .xor .u32 ((v : Int) / 256) ((it 8 kk : Nat) : Int) = ((up v x : Nat) : Int) := by rw [show (v : Int) / 256 = ((v / 256 : Nat) : Int) from by simp]; exact e2
        have z1 : (0 : Int) ≤ (kk : Int) := by omega
        have z2 : (kk : Int) < 256 := by omega
        clear hkk hi8
        go_wp2_with fail
        go_roundg k
        case measure => have := HJ'.out; omega
        case rel => exact ⟨i + 1, up v x, by go_num, rfl, Lib.hid (by have := HJ'.out; omega), Lib.hid ⟨by rw [HT.out, ← HV.out.1], HUL.out⟩, Lib.hid rfl⟩
      · have hi : i = l.length := by have := HJ.out; omega
        have hn := not_u32 HV.out.2
        have hv := HV.out.1
        rw [hi, List.take_length] at hv
        have HVV := Lib.hid hv
        clear hv
        have hsg : IntKind.u32.signed = false := rfl
        go_wp2_with fail
        go_ret
        have e : sumN s l = v ^^^ ff := by unfold sumN; rw [← HVV.out]
        rw [e]
        exact ⟨rfl, .inl HS2.out, HG2.out⟩
end Go.Proofs.Ytagfplcafeblbaa.C
