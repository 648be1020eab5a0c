/-
  crc: the document's own answer: More, Of, Close, Ends.
-/
import Derived.Test.YtagfplcafeblbaaCh
import Derived.Laws.Strings
namespace Go.Proofs.Ytagfplcafeblbaa.C
open Go.RowKit Go.Proofs.Ytagfplcafeblbaa.L Go.Proofs.YtagfplcafeblbaaW.PrintWords

def okB (l : List Int) : Prop := ∀ x ∈ l, 0 ≤ x ∧ x < 256
theorem okB_natB {l : List Nat} (hl : ∀ x ∈ l, x < 256) : okB (natB l) := fun y hy => by
  simp only [natB, List.mem_map] at hy
  obtain ⟨x, hx, rfl⟩ := hy
  have := hl x hx
  omega
theorem toList_inj {a b : ByteArray} (h : a.data.toList = b.data.toList) : a = b := by
  cases a; cases b
  simp only at h
  congr 1
  exact Array.ext' h
theorem str_eq {a b : List Int} (ha : okB a) (hb : okB b) (h : strOfNums a = strOfNums b) : a = b := by
  have h1 := congrArg (fun s : ByteArray => s.data.toList) h
  simp only [strOfNums_data] at h1
  have hl : a.length = b.length := by simpa using congrArg List.length h1
  apply List.ext_getElem hl
  intro i hi hi'
  have h2 : (a.map fun n => UInt8.ofNat n.toNat)[i]? = (b.map fun n => UInt8.ofNat n.toNat)[i]? := by rw [h1]
  simp only [List.getElem?_map, List.getElem?_eq_getElem hi, List.getElem?_eq_getElem hi', Option.map_some, Option.some.injEq] at h2
  have h3 := congrArg UInt8.toNat h2
  have p := ha _ (List.getElem_mem hi)
  have q := hb _ (List.getElem_mem hi')
  simp only [UInt8.toNat_ofNat'] at h3
  omega
theorem bytes_list_inj {a b : ByteArray} (h : a.toList = b.toList) : a = b := toList_inj (by rw [← ByteArray.toList_eq, ← ByteArray.toList_eq, h])
theorem str_beq {a b : List Int} (ha : okB a) (hb : okB b) : ((strOfNums a).toList == (strOfNums b).toList) = decide (a = b) := by
  by_cases h : a = b
  · subst h; simp
  · rw [decide_eq_false h]
    rw [beq_eq_false_iff_ne]
    exact fun e => h (str_eq ha hb (bytes_list_inj e))

set_option maxHeartbeats 3200000 in
set_option maxRecDepth 100000 in
theorem rmore_any (s : Nat) (l : List Nat) (A : Option Addr) (c : Nat) (w : World) (hs : s < 4294967296) (hC : (Kd.int .u8).C w A l.length (natB l)) (hl : ∀ x ∈ l, x < 256) :
    Calls Try.prog 23 #[.int .u32 (s : Int), .slice A l.length c] w fun e w' => e = .returned (.int .u32 (sumN s l : Nat)) ∧ w' = w := by
  have hF : s ^^^ ff < 4294967296 := Nat.xor_lt_two_pow (n := 32) hs (by decide)
  have e0 : bits .xor .u32 (s : Int) 4294967295 = ((s ^^^ ff : Nat) : Int) := xor_u32 s ff hs (by decide)
  have hlm := (B_open hC).1
  have HC := Lib.hid hC
  have HL := Lib.hid hl
  have HF := Lib.hid hF
  have hsum : ∀ v, v = more (s ^^^ ff) l → sumN s l = v ^^^ ff := fun v h => by unfold sumN; rw [← h]
  have HSum := Lib.hid hsum
  clear hC hl hF hsum
  obtain ⟨sf, hsf⟩ : ∃ sf, s ^^^ ff = sf := ⟨_, rfl⟩
  rw [hsf] at e0 HF HSum
  clear hsf
  obtain ⟨R, hR⟩ : ∃ R, sumN s l = R := ⟨_, rfl⟩
  rw [hR] at HSum ⊢
  clear hR
  go_enter Try.func23, Try.ntmps23
  go_wp2_with fail
  clear e0
  go_loopg [5, 6] (l.length + 1) (fun g v5 v6 w' => ∃ (i v : Nat), v6 = .int .i64 i ∧ v5 = .int .u32 v ∧ Hid (i ≤ l.length ∧ l.length < g + i) ∧ Hid (v = more sf (l.take i) ∧ v < 4294967296) ∧ Hid (w = w'))
  case atStart => exact ⟨0, _, rfl, rfl, Lib.hid ⟨by omega, by omega⟩, Lib.hid ⟨rfl, HF.out⟩, Lib.hid rfl⟩
  case round =>
    obtain ⟨i, v, rfl, rfl, HJ, HV, HW⟩ := hrel
    obtain rfl := HW.out
    clear HW
    cases gk with
    | zero => have := HJ.out; omega
    | succ k =>
      by_cases hlt : i < l.length
      · have HJ' := Lib.hid (show i < l.length ∧ l.length < (k + 1) + i from ⟨hlt, HJ.out.2⟩)
        rcases (B_open HC.out).2 with e | ⟨bo, off, rfl, hbo, hcells⟩
        · subst e; simp at hlt
        have c0 := hcells i hlt
        have hx := getD_lt hlt HL.out
        have HT := Lib.hid (more_snoc (v := sf) hlt)
        clear hcells hbo HJ
        generalize l.getD i 0 = x at c0 hx HT
        have hv := HV.out.2
        have e1 := xor_u32 v x hv (by omega)
        have wx : IntKind.u32.wrap (x : Int) = x := wraps_u32 _ (by omega) (by omega)
        have hvx : v ^^^ x < 4294967296 := Nat.xor_lt_two_pow (n := 32) hv (by omega)
        have HU := Lib.hid (show up v x = it 8 (v ^^^ x) from rfl)
        obtain ⟨u, hu⟩ : ∃ u, v ^^^ x = u := ⟨_, rfl⟩
        rw [hu] at e1 hvx HU
        clear hu
        have z4 : (i : Int) < (l.length : Int) := by omega
        have z6 : (0 : Int) ≤ (i : Int) := by omega
        have z8 : decide ((i : Int) < (l.length : Int)) = true := decide_eq_true z4
        go_wp2_with fail
        clear e1 wx z4 z6 z8 c0
        obtain ⟨wo, rfl⟩ : ∃ wo : World, wo = w := ⟨_, rfl⟩
        go_loopg [5, 7] 9 (fun g v5 v7 w' => ∃ (j q : Nat), v7 = .int .i64 j ∧ v5 = .int .u32 q ∧ Hid (j ≤ 8 ∧ 8 < g + j) ∧ Hid (q = it j u ∧ q < 4294967296) ∧ Hid (wo = w'))
        case atStart => exact ⟨0, u, rfl, rfl, Lib.hid ⟨by omega, by omega⟩, Lib.hid ⟨rfl, hvx⟩, Lib.hid rfl⟩
        case round =>
          obtain ⟨j, q, rfl, rfl, HJ, HQ, HW⟩ := hrel
          obtain rfl := HW.out
          clear HW
          cases gk with
          | zero => have := HJ.out; omega
          | succ k2 =>
            by_cases hj : j < 8
            · have HJ2 := Lib.hid (show j < 8 ∧ 8 < (k2 + 1) + j from ⟨hj, HJ.out.2⟩)
              have hq := HQ.out.2
              have HQ2 := Lib.hid (show stp q = it (j + 1) u ∧ stp q < 4294967296 from ⟨by rw [it_add j 1, ← HQ.out.1]; rfl, stp_lt hq⟩)
              have hq0 : (0 : Int) ≤ (q : Int) := by omega
              have z8 : decide ((j : Int) < 8) = true := decide_eq_true (by omega)
              have z4 : (j : Int) < 8 := by omega
              have e3 := xor_u32 (q / 2) poly (by omega) (by decide)
              have e3' : bits .xor .u32 ((q / 2 : Nat) : Int) 3988292384 = ((q / 2 ^^^ poly : Nat) : Int) := e3
              have hd : (q : Int) / 2 = ((q / 2 : Nat) : Int) := by simp
              have hS : ∀ d, q % 2 = d → stp q = if d = 1 then q / 2 ^^^ poly else q / 2 := fun d h => by unfold stp; rw [h]
              have HS := Lib.hid hS
              have hqm : ((q : Int) % 2) = ((q % 2 : Nat) : Int) := by simp
              clear HJ hS e3
              obtain ⟨h2, hh2⟩ : ∃ h2, q / 2 = h2 := ⟨_, rfl⟩
              rw [hh2] at e3' hd HS
              have hb2 : h2 < 4294967296 := by omega
              have hb2' : (0 : Int) ≤ (h2 : Int) := by omega
              clear hh2
              rcases Nat.mod_two_eq_zero_or_one q with hm | hm
              · have t1 : (q : Int) % 2 = 0 := by rw [hqm, hm]; rfl
                have HS2 := Lib.hid (show h2 = stp q from by rw [HS.out 0 hm]; rfl)
                clear hm hqm
                go_wp2_with fail
                go_roundg k2
                case measure => have := HJ2.out; omega
                case rel => exact ⟨j + 1, stp q, by go_num, by rw [← HS2.out], Lib.hid (by have := HJ2.out; omega), HQ2, Lib.hid rfl⟩
              · have t1 : (q : Int) % 2 = 1 := by rw [hqm, hm]; rfl
                have HS2 := Lib.hid (show h2 ^^^ poly = stp q from by rw [HS.out 1 hm]; rfl)
                clear hm hqm
                go_wp2_with fail
                go_roundg k2
                case measure => have := HJ2.out; omega
                case rel => exact ⟨j + 1, stp q, by go_num, by rw [← HS2.out], Lib.hid (by have := HJ2.out; omega), HQ2, Lib.hid rfl⟩
            · have hj8 : j = 8 := by have := HJ.out; omega
              subst hj8
              clear HJ
              go_wp2_with fail
              go_roundg k
              case measure => have := HJ'.out; omega
              case rel => exact ⟨i + 1, q, by go_num, rfl, Lib.hid (by have := HJ'.out; omega), Lib.hid ⟨by rw [HT.out, ← HV.out.1, HU.out]; exact HQ.out.1, HQ.out.2⟩, Lib.hid rfl⟩
      · have hi : i = l.length := by have := HJ.out; omega
        have e1 : bits .xor .u32 (v : Int) 4294967295 = ((v ^^^ ff : Nat) : Int) := xor_u32 v ff HV.out.2 (by decide)
        have hv := HV.out.1
        rw [hi, List.take_length] at hv
        have HE := Lib.hid (HSum.out v hv)
        have z8 : decide ((i : Int) < (l.length : Int)) = false := decide_eq_false (by omega)
        clear hv HJ
        go_wp2_with fail
        go_ret
        rw [HE.out]
        exact ⟨rfl, rfl⟩
set_option maxHeartbeats 400000 in
theorem rof_any (l : List Nat) (A : Option Addr) (c : Nat) (w : World) (hC : (Kd.int .u8).C w A l.length (natB l)) (hl : ∀ x ∈ l, x < 256) :
    Calls Try.prog 27 #[.slice A l.length c] w fun e w' => e = .returned (.int .u32 (ofN l : Nat)) ∧ w' = w := by
  have H := Lib.hid (rmore_any 0 l A c w (by omega) hC hl)
  clear hC hl
  go_enter Try.func27, Try.ntmps27
  go_wp2_with fail
  refine H.out.mono ?_
  rintro e w1 ⟨rfl, rfl⟩
  go_wp2_with fail
  go_ret
  exact ⟨rfl, rfl⟩
end Go.Proofs.Ytagfplcafeblbaa.C
