/-
  mac: the document's Derive, and the law of keys that are derived.
-/
import Derived.Test.YtagfplcafeblbaaMi
import Derived.ArgAppend
namespace Go.Proofs.Ytagfplcafeblbaa.Mc
open Go.RowKit Go.Proofs.Ytagfplcafeblbaa.L Go.Proofs.Ytagfplcafeblbaa.N Go.Proofs.Ytagfplcafeblbaa.H Go.Proofs.YtagfplcafeblbaaW.PrintWords

section
variable {P : Program} {ops : Array Oper} {rest : List Oper} {o : Oper} {a : Act} {Q : Exit → Act → World → Prop}
theorem sb_get (s : ByteArray) (j : Nat) (hj : j < s.size) : (sbN s).getD j 0 = (s.data.toList.getD j 0).toNat := by
  simp [sbN, List.getD_eq_getElem?_getD, hj]
theorem sb_spare (W : World) (s : ByteArray) (j : Nat) (hj : j < grownCap W s.size 0 5) : ((Lib.bytesWorld W 5 s).cell? ⟨W.heap.size, j, none⟩).isSome = true ∧ (Lib.bytesWorld W 5 s).frozen? ⟨W.heap.size, j, none⟩ = false := by
  have hsz : (Lib.bytesCells W 5 s).size = grownCap W s.size 0 5 := by
    have := grownCap_ge W s.size 0 5
    simp [Lib.bytesCells]
    omega
  constructor
  · simp only [World.cell?, Lib.bytesWorld_at_new]
    rw [Array.getElem?_eq_getElem (by omega)] <;> rfl
  · simp only [World.frozen?, Lib.bytesWorld_at_new, hsz]
    simp
    omega
/-- append([]byte(s), 0, byte(i)) -/
theorem app_lab {W : World} (s : ByteArray) (i : Nat) (hs : s.size ≤ 100) (c : Nat) (sO xO : Operand) (hgd : o.guard = none)
    (ho : o.op = .call { callee := .builtin .append, args := #[sO, xO], argTypes := #[22, 22] })
    (hsv : a.eval sO = .slice (some ⟨W.heap.size, 0, none⟩) s.size (grownCap W s.size 0 5)) (hx : a.eval xO = .slice (some ⟨W.heap.size + 1, 0, none⟩) 2 c)
    (h : ∀ A n w', (Kd.int .u8).C w' A (s.size + 2) (nat (sbN s ++ [0, i])) → Below W.heap.size W w' → wpList Try.prog ops Q rest (a.put o.dst (.slice A (s.size + 2) n)) w') :
    wpList Try.prog ops Q (o :: rest) a ((Lib.bytesWorld W 5 s).alloc (.cells #[.int .u8 0, .int .u8 (i : Int)] 5)) := by
  obtain ⟨i0, hi0, hz⟩ := Option.map_eq_some_iff.1 info_u8
  simp only [Prod.mk.injEq] at hz
  obtain ⟨hz0, hz1, hz2⟩ := hz
  have hbs := Lib.bytesWorld_size W 5 s
  have hold : ∀ (o1 : Obj) j, ((Lib.bytesWorld W 5 s).alloc o1).cell? ⟨W.heap.size, j, none⟩ = (Lib.bytesWorld W 5 s).cell? ⟨W.heap.size, j, none⟩ := fun o1 j => by
    have := (Below.refl (Lib.bytesWorld W 5 s).heap.size (Lib.bytesWorld W 5 s)).alloc (Nat.le_refl _) o1
    exact this.cell (p := ⟨W.heap.size, j, none⟩) (by show W.heap.size < _; omega)
  have holdf : ∀ (o1 : Obj) j, ((Lib.bytesWorld W 5 s).alloc o1).frozen? ⟨W.heap.size, j, none⟩ = (Lib.bytesWorld W 5 s).frozen? ⟨W.heap.size, j, none⟩ := fun o1 j => by
    have := (Below.refl (Lib.bytesWorld W 5 s).heap.size (Lib.bytesWorld W 5 s)).alloc (Nat.le_refl _) o1
    exact this.frozen (p := ⟨W.heap.size, j, none⟩) (by show W.heap.size < _; omega)
  have hnew : ∀ j u, ([Value.int .u8 0, Value.int .u8 (i : Int)] : List Value)[j]? = some u → ((Lib.bytesWorld W 5 s).alloc (.cells #[.int .u8 0, .int .u8 (i : Int)] 5)).cell? ((⟨W.heap.size + 1, 0, none⟩ : Addr).add j) = some u := fun j u hj => by
    have hn := heap_alloc_new (Lib.bytesWorld W 5 s) (.cells #[.int .u8 0, .int .u8 (i : Int)] 5)
    rw [hbs] at hn
    rw [add_at, Nat.zero_add, blk_cell hn]
    simpa using hj
  have holds : ∀ j u, ((sbN s).map (fun x : Nat => Value.int .u8 (x : Int)))[j]? = some u → ((Lib.bytesWorld W 5 s).alloc (.cells #[.int .u8 0, .int .u8 (i : Int)] 5)).cell? ⟨W.heap.size, 0 + j, none⟩ = some u := fun j u hj => by
    obtain ⟨x, hx1, rfl⟩ : ∃ x, (sbN s)[j]? = some x ∧ Value.int .u8 (x : Int) = u := by simpa using hj
    have hj' : j < s.size := by rw [← sbN_len s]; exact (List.getElem?_eq_some_iff.1 hx1).1
    rw [Nat.zero_add, hold, Lib.bytesWorld_cell W _ s j hj']
    have := sb_get s j hj'
    rw [List.getD_eq_getElem?_getD, hx1] at this
    simp at this
    rw [this]
    simp [List.getD_eq_getElem?_getD]
  have hb2 : Below W.heap.size W ((Lib.bytesWorld W 5 s).alloc (.cells #[.int .u8 0, .int .u8 (i : Int)] 5)) := (sb_below W _ s).alloc (by omega) _
  refine wpList_append_arg _ hgd sO xO 22 ho 5 i0 (.int .u8 0) 1 1 Try.underlying22 hi0 hz0 hz1 hz2 rfl (by decide) W.heap.size 0 s.size (grownCap W s.size 0 5) ((sbN s).map (fun x : Nat => Value.int .u8 (x : Int))) hsv (by rw [List.length_map, sbN_len, Nat.mul_one]) holds ⟨W.heap.size + 1, 0, none⟩ 2 c [.int .u8 0, .int .u8 (i : Int)] hx rfl hnew (by intro u hu; simp at hu; rcases hu with rfl | rfl <;> rfl) (fun hr j hj => ?_) (by unfold maxLen; omega) (by omega) (fun hr => ?_) (fun hr v' w' ho' hg' => ?_)
  · have hj2 : j < 2 := hj
    have := sb_spare W s (0 + s.size * 1 + j) (by omega)
    rw [hold, holdf]
    exact this
  · have hin := World.cell?_setCells_in W.heap.size [.int .u8 0, .int .u8 (i : Int)] (0 + s.size * 1) ((Lib.bytesWorld W 5 s).alloc (.cells #[.int .u8 0, .int .u8 (i : Int)] 5)) (fun j hj => by
      have hj2 : j < 2 := hj
      rw [hold]
      exact (sb_spare W s (0 + s.size * 1 + j) (by omega)).1)
    have hout := World.cell?_setCells_out W.heap.size [.int .u8 0, .int .u8 (i : Int)] (0 + s.size * 1) ((Lib.bytesWorld W 5 s).alloc (.cells #[.int .u8 0, .int .u8 (i : Int)] 5))
    refine h (some ⟨W.heap.size, 0, none⟩) _ _ ?_ ?_
    · have hl : (sbN s ++ [0, i]).length = s.size + 2 := by rw [List.length_append, sbN_len]; rfl
      rw [← hl]
      refine Kd.C_of_reads (d := (0 : Int)) ⟨nat_length _, by rw [hl]; omega, fun _ => ⟨_, rfl, fun j hj => ?_⟩⟩
      rw [hl] at hj
      rw [add_at, show 0 + j = j from Nat.zero_add j, nat_get (by rw [hl]; exact hj)]
      by_cases hjs : j < s.size
      · have hc := holds j (.int .u8 ((sbN s).getD j 0 : Nat)) (by
          rw [List.getElem?_map, List.getElem?_eq_getElem (by rw [sbN_len]; exact hjs)]
          simp [List.getD_eq_getElem?_getD, List.getElem?_eq_getElem (show j < (sbN s).length by rw [sbN_len]; exact hjs)])
        rw [Nat.zero_add] at hc
        have e : (sbN s ++ [0, i]).getD j 0 = (sbN s).getD j 0 := by
          rw [List.getD_eq_getElem?_getD, List.getD_eq_getElem?_getD, List.getElem?_append_left (by rw [sbN_len]; exact hjs)]
        rw [hout ⟨W.heap.size, j, none⟩ (fun _ _ => .inl (by show j < 0 + s.size * 1; omega)), hc, e]
      · obtain ⟨k, hk⟩ : ∃ k, j = s.size + k := ⟨j - s.size, by omega⟩
        have hk2 : k < 2 := by omega
        have hc := hin k hk2
        rw [show 0 + s.size * 1 + k = j from by omega] at hc
        rw [hc]
        have e : (sbN s ++ [0, i]).getD j 0 = [0, i].getD k 0 := by
          rw [List.getD_eq_getElem?_getD, List.getD_eq_getElem?_getD, List.getElem?_append_right (by rw [sbN_len]; omega), sbN_len, hk, Nat.add_sub_cancel_left]
        rw [e]
        rcases (show k = 0 ∨ k = 1 from by omega) with rfl | rfl <;> rfl
    · exact hb2.grown (setCells_grown W.heap.size _ _ _) hb2.size (fun k hk => by injection hk with hk; omega)
  · have hR : (Kd.int .u8).R 5 w' ((Lib.bytesWorld W 5 s).alloc (.cells #[.int .u8 0, .int .u8 (i : Int)] 5)).heap.size (fun _ => True) v' (nat (sbN s ++ [0, i])) := by
      refine Kd.R_of_own (enc := Value.int .u8) ?_ (fun _ _ => trivial)
      have hl : (nat (sbN s ++ [0, i])).length = s.size + 2 := by rw [nat_length, List.length_append, sbN_len]; rfl
      rw [hl, show encs (Value.int .u8) (nat (sbN s ++ [0, i])) = (sbN s).map (fun x : Nat => Value.int .u8 (x : Int)) ++ [.int .u8 0, .int .u8 (i : Int)] from by simp [encs, nat]]
      exact ho'
    obtain ⟨A, n, hv, _, hC⟩ := Kd.R_reads hR
    have hl : (nat (sbN s ++ [0, i])).length = s.size + 2 := by rw [nat_length, List.length_append, sbN_len]; rfl
    rw [hl] at hv hC
    subst hv
    exact h A n w' hC (hb2.grown hg' hb2.size (fun k hk => by cases hk))
end
theorem make16 (w : World) : (Instr.makeSlice 22 (.int .i64 16) (.int .i64 16)).run Try.prog w = .ok (.slice (some ⟨w.heap.size, 0, none⟩) 16 16) (w.alloc (.cells (arr .u8 z16) 5)) := make_b 16 16 rfl (by decide) w
/-- what the document's Derive tells -/
def RDv (K : List Nat) (code : Int) (w : World) (e : Ending) (w' : World) : Prop := ∃ A c, e = .returned (.tuple #[.slice A 16 c, .int .i64 code]) ∧ (Kd.int .u8).C w' A 16 (nat K) ∧ Below w.heap.size w w'
set_option maxRecDepth 100000 in
theorem rderive_bad (n : Nat) (A : Option Addr) (c : Nat) (s : ByteArray) (i : Int) (w : World) (h : n = 0 ∨ i < 0 ∨ 255 < i) (hn : n ≤ 9223372036854775807) :
    Calls Try.prog 39 #[.slice A n c, .string s, .int .i64 i] w (RDv z16 1 w) := by
  have hmk := make16
  by_cases h0 : n = 0
  · subst h0
    clear h hn
    go_enter Try.func39, Try.ntmps39
    go_wp2_with fail
    exact bodyPost_ret (v := .tuple #[.slice (some ⟨w.heap.size, 0, none⟩) 16 16, .int .i64 1]) (by simp [results, Try.results39]) rfl ⟨_, _, rfl, rowK (AB.mk w .u8 _ z16) (show 16 ≤ maxLen by decide), (Below.refl _ _).alloc (Nat.le_refl _) _⟩
  · have t0 : ((n : Int) == 0) = false := by rw [beq_eq_false_iff_ne]; omega
    have t0n : (n == 0) = false := by rw [beq_eq_false_iff_ne]; exact h0
    by_cases h1 : i < 0
    · have t1 : decide (i < 0) = true := decide_eq_true h1
      clear h h0 h1 hn
      go_enter Try.func39, Try.ntmps39
      go_wp2_with fail
      exact bodyPost_ret (v := .tuple #[.slice (some ⟨w.heap.size, 0, none⟩) 16 16, .int .i64 1]) (by simp [results, Try.results39]) rfl ⟨_, _, rfl, rowK (AB.mk w .u8 _ z16) (show 16 ≤ maxLen by decide), (Below.refl _ _).alloc (Nat.le_refl _) _⟩
    · have t1 : decide (i < 0) = false := decide_eq_false h1
      have t2 : decide (255 < i) = true := decide_eq_true (by omega)
      clear h h0 h1 hn
      go_enter Try.func39, Try.ntmps39
      go_wp2_with fail
      exact bodyPost_ret (v := .tuple #[.slice (some ⟨w.heap.size, 0, none⟩) 16 16, .int .i64 1]) (by simp [results, Try.results39]) rfl ⟨_, _, rfl, rowK (AB.mk w .u8 _ z16) (show 16 ≤ maxLen by decide), (Below.refl _ _).alloc (Nat.le_refl _) _⟩
set_option maxRecDepth 100000 in
theorem rderive_long (n : Nat) (A : Option Addr) (c : Nat) (s : ByteArray) (i : Nat) (w : World) (h0 : 0 < n) (hn : n ≤ 9223372036854775807) (hi : i ≤ 255) (hs : 32 < s.size) (hs2 : s.size ≤ 9223372036854775807) :
    Calls Try.prog 39 #[.slice A n c, .string s, .int .i64 (i : Int)] w (RDv z16 2 w) := by
  have hmk := make16
  have t0 : ((n : Int) == 0) = false := by rw [beq_eq_false_iff_ne]; omega
  have t0n : (n == 0) = false := by rw [beq_eq_false_iff_ne]; omega
  have t1 : decide ((i : Int) < 0) = false := decide_eq_false (by omega)
  have t2 : decide ((255 : Int) < (i : Int)) = false := decide_eq_false (by omega)
  have t3 : decide ((32 : Int) < (s.size : Int)) = true := decide_eq_true (by omega)
  have t4 : (32 : Int) < (s.size : Int) := by omega
  clear h0 hn hi hs hs2
  go_enter Try.func39, Try.ntmps39
  go_wp2_with fail
  exact bodyPost_ret (v := .tuple #[.slice (some ⟨w.heap.size, 0, none⟩) 16 16, .int .i64 2]) (by simp [results, Try.results39]) rfl ⟨_, _, rfl, rowK (AB.mk w .u8 _ z16) (show 16 ≤ maxLen by decide), (Below.refl _ _).alloc (Nat.le_refl _) _⟩
set_option maxRecDepth 100000 in
set_option maxHeartbeats 1600000 in
theorem rderive_ok (secret : List Nat) (A : Option Addr) (c : Nat) (s : ByteArray) (i : Nat) (w : World) (hC : (Kd.int .u8).C w A secret.length (nat secret)) (hk : ∀ x ∈ secret, x < 256) (hl : secret.length ≤ 100000) (h0 : 0 < secret.length) (hi : i ≤ 255) (hs : s.size ≤ 32) :
    Calls Try.prog 39 #[.slice A secret.length c, .string s, .int .i64 (i : Int)] w (RDv (drvN secret (sbN s) i) 0 w) := by
  have t0 : ((secret.length : Int) == 0) = false := by rw [beq_eq_false_iff_ne]; omega
  have t0n : (secret.length == 0) = false := by rw [beq_eq_false_iff_ne]; omega
  have t1 : decide ((i : Int) < 0) = false := decide_eq_false (by omega)
  have t2 : decide ((255 : Int) < (i : Int)) = false := decide_eq_false (by omega)
  have t3 : decide ((32 : Int) < (s.size : Int)) = false := decide_eq_false (by omega)
  have z1 : (0 : Int) ≤ (i : Int) := by omega
  have z2 : (i : Int) ≤ 255 := by omega
  have HC := Lib.hid hC
  have HK := Lib.hid hk
  have HKl := Lib.hid hl
  have HS := Lib.hid (show s.size ≤ 32 ∧ i ≤ 255 from ⟨hs, hi⟩)
  have HD := Lib.hid (show drvN secret (sbN s) i = (markN secret (sbN s ++ [0, i])).take 16 from rfl)
  have HB8 := Lib.hid (show ∀ x ∈ sbN s ++ [0, i], x < 256 from app_lt (sbN_lt s) (by intro x hx; simp at hx; omega))
  have HLl := Lib.hid (show (sbN s ++ [0, i]).length = s.size + 2 from by rw [List.length_append, sbN_len]; rfl)
  clear hC hk hl h0 hi hs
  have hcv : ∀ W : World, (convert 9 22 (.string s)).run Try.prog W = .ok (.slice (some ⟨W.heap.size, 0, none⟩) s.size (grownCap W s.size 0 5)) (Lib.bytesWorld W 5 s) := fun W => Lib.run_convert_string_bytes W _ _ _ s Try.underlying9 Try.underlying22 Try.underlying5
  have hbs : ∀ W : World, (Lib.bytesWorld W 5 s).heap.size = W.heap.size + 1 := fun W => Lib.bytesWorld_size W _ s
  go_enter Try.func39, Try.ntmps39
  go_wp2_with (at_builtin; refine app_lab (W := w) s i (by have := HS.out; omega) 2 (.tmp 26) (.tmp 29) rfl rfl rfl rfl ?_; intro A2 n2 w2 hc2 hb2; (have HC2 := Lib.hid hc2); (have HB2 := Lib.hid hb2); clear hc2 hb2)
  have hc2 := HC2.out
  rw [← HLl.out] at hc2
  have hq := rmark_any secret (sbN s ++ [0, i]) A A2 c n2 w2 (Kd.C_below HC.out HB2.out) HK.out HKl.out hc2 HB8.out (by rw [HLl.out]; have := HS.out; omega)
  rw [HLl.out] at hq
  have HQ := Lib.hid hq
  clear hc2 hq hcv hbs HC2
  refine HQ.out.mono ?_
  rintro e w3 ⟨v3, rfl, hr3, hb3⟩
  obtain ⟨A3, c3, hv3, hc3, hC3⟩ := Kd.R_reads hr3
  rw [nat_length, markN_len] at hv3 hc3 hC3
  subst hv3
  obtain ⟨hct, hCt⟩ := cutT A3 32 c3 16 16 rfl (by decide) hc3
  have HC3 := Lib.hid (hCt w3 _ hC3)
  have HB3 := Lib.hid (HB2.out.trans (hb3.mono HB2.out.size))
  clear hr3 hb3 hc3 hC3 hCt HQ
  go_wp2_with fail
  exact bodyPost_ret (v := .tuple #[.slice A3 16 c3, .int .i64 0]) (by simp [results, Try.results39]) rfl ⟨_, _, rfl, by rw [HD.out]; exact HC3.out, HB3.out⟩
theorem key_whole (b : Nat) (W : World) : (Instr.sliceAt 74 (.pointer (some ⟨b, 0, none⟩)) none none none).run Try.prog W = .ok (.slice (some ⟨b, 0, none⟩) 16 16) W := by kernel_rfl
set_option maxRecDepth 100000 in
set_option maxHeartbeats 3200000 in
theorem derives_gen (K : List Nat) (code : Int) (n : Nat) (s : ByteArray) (i : Int) (A : Option Addr) (c : Nat) (w : World) (hK : K.length = 16) (hn : n ≤ 150) (hs : s.size ≤ 100)
    (h1 : Calls Try.prog 38 #[.slice A n c, .string s, .int .i64 i] w fun e w' => e = .returned (.tuple #[.agg (arr .u8 K), .int .i64 code]) ∧ Below w.heap.size w w')
    (h2 : ∀ W, Below w.heap.size w W → Calls Try.prog 39 #[.slice A n c, .string s, .int .i64 i] W (RDv K code W)) :
    Calls Try.prog 11 #[.slice A n c, .string s, .int .i64 i] w fun e w' => e = .returned (.bool true) ∧ Below w.heap.size w w' := by
  have t1 : decide ((150 : Int) < (n : Int)) = false := decide_eq_false (by omega)
  have t2 : decide ((100 : Int) < (s.size : Int)) = false := decide_eq_false (by omega)
  have HK := Lib.hid hK
  have H1 := Lib.hid h1
  have H2 := Lib.hid h2
  clear hK hn hs h1 h2
  go_enter Try.func11, Try.ntmps11
  go_wp2_with fail
  refine H1.out.mono ?_
  rintro e w1 ⟨rfl, hb1⟩
  have HB1 := Lib.hid hb1
  clear hb1 H1
  go_upto_region 4 with (refine store_ab .u8 w1.heap.size z16 K rfl rfl rfl rfl rfl (AB.mk w1 .u8 tKey z16) (by rw [HK.out]; exact info_key) (by rw [HK.out]; rfl) ?_; intro W2 h5 hg5; (have H6 := Lib.hid h5); (have HG5 := Lib.hid hg5); clear h5 hg5)
  obtain ⟨hb2, _⟩ := below_new HG5.out
  have HB2 := Lib.hid (HB1.out.trans (hb2.mono HB1.out.size))
  obtain ⟨b6, hb6⟩ : ∃ b, w1.heap.size = b := ⟨_, rfl⟩
  rw [hb6] at H6 ⊢
  clear hb2 HG5 HB1 hb6
  have HQ := Lib.hid (H2.out W2 HB2.out)
  go_wp2_with fail
  refine HQ.out.mono ?_
  rintro e w3 ⟨A3, c3, rfl, hc3, hb3⟩
  have HC3 := Lib.hid hc3
  have HB3 := Lib.hid (HB2.out.trans (hb3.mono HB2.out.size))
  have H63 := Lib.hid (H6.out.below H6.out.lt hb3)
  clear hc3 hb3 HQ HB2 H6 H2
  go_wp2_with fail
  refine Q.wp_region_segs none [([], some 0), ([1, 2, 3, 4, 5, 6, 7, 8, 9, 10, 11, 12, 13], none)] (by kernel_rfl) (by kernel_rfl) (by kernel_rfl) (by kernel_rfl) ?_
  dsimp only [Q.wpSegs, Q.picks, Q.pick]
  refine wpQuiet_nil ?_
  go_wp2_with fail
  refine (alive_any _).mono ?_
  rintro e w4 ⟨rfl, hb4⟩
  have hbd : Below w3.heap.size w3 w4 := (stay0 w3).trans hb4
  have HC4 := Lib.hid (Kd.C_below HC3.out hbd)
  have HB4 := Lib.hid (HB3.out.trans (hbd.mono HB3.out.size))
  have H64 := Lib.hid (H63.out.below H63.out.lt hbd)
  have Hev := Lib.hid hb4
  clear hb4 hbd HC3 HB3 H63
  go_wp2_with fail
  refine Q.ev_done Hev.out (Nat.le_refl _) ?_
  have hwh := key_whole b6
  have q1 : ∀ x : Q.GW w4 w4.heap.size none, (convert 22 9 (.slice (some ⟨b6, 0, none⟩) 16 16)).run Try.prog x.w = .ok (.string (strOfNums (nat K))) x.w := fun x => strS HK.out (by have := rowK (H64.out.below H64.out.lt x.below) (show K.length ≤ maxLen by rw [HK.out]; decide); rwa [HK.out] at this)
  have q2 : ∀ x : Q.GW w4 w4.heap.size none, (convert 22 9 (.slice A3 16 c3)).run Try.prog x.w = .ok (.string (strOfNums (nat K))) x.w := fun x => strS HK.out (Kd.C_below HC4.out x.below)
  repeat (go_big_quiet_step (fail))
  refine wpQuiet_nil ?_
  clear q1 q2 hwh
  refine NoPanic.normal ?_
  go_wp2_with fail
  go_ret
  exact ⟨rfl, HB4.out⟩
set_option maxRecDepth 100000 in
set_option maxHeartbeats 1600000 in
theorem derives_nat (secret : List Nat) (s : ByteArray) (i : Int) (A : Option Addr) (c : Nat) (w : World) (hC : (Kd.int .u8).C w A secret.length (nat secret)) (hc : secret.length ≤ c) (hk : ∀ x ∈ secret, x < 256) (hs2 : s.size ≤ 9223372036854775807) :
    Calls Try.prog 11 #[.slice A secret.length c, .string s, .int .i64 i] w fun e w' => e = .returned (.bool true) ∧ Below w.heap.size w w' := by
  by_cases hg0 : 150 < secret.length
  · have HAl := Lib.hid (alive_any w)
    have tg_secret : decide ((150 : Int) < (secret.length : Int)) = true := decide_eq_true (by omega)
    clear hC hc hk hg0
    go_enter Try.func11, Try.ntmps11
    go_wp2_with fail
    refine HAl.out.mono ?_
    rintro e w1 ⟨rfl, hb⟩
    go_wp2_with fail
    go_ret
    exact ⟨rfl, hb⟩
  have tg_secret : decide ((150 : Int) < (secret.length : Int)) = false := decide_eq_false (by omega)
  by_cases hg1 : 100 < s.size
  · have HAl := Lib.hid (alive_any w)
    have tg_s : decide ((100 : Int) < (s.size : Int)) = true := decide_eq_true (by omega)
    clear hC hc hk hg0 hg1
    go_enter Try.func11, Try.ntmps11
    go_wp2_with fail
    refine HAl.out.mono ?_
    rintro e w1 ⟨rfl, hb⟩
    go_wp2_with fail
    go_ret
    exact ⟨rfl, hb⟩
  have tg_s : decide ((100 : Int) < (s.size : Int)) = false := decide_eq_false (by omega)
  by_cases hb : secret.length = 0 ∨ i < 0 ∨ 255 < i
  · exact derives_gen z16 1 secret.length s i A c w rfl (by omega) (by omega) (derive_bad _ _ _ _ _ _ hb (by omega)) (fun W _ => rderive_bad _ _ _ _ _ W hb (by omega))
  · obtain ⟨j, rfl⟩ : ∃ j : Nat, i = (j : Int) := ⟨i.toNat, by omega⟩
    by_cases hl : 32 < s.size
    · exact derives_gen z16 2 secret.length s _ A c w rfl (by omega) (by omega) (derive_long _ _ _ _ _ _ (by omega) (by omega) (by omega) hl hs2) (fun W _ => rderive_long _ _ _ _ _ W (by omega) (by omega) (by omega) hl hs2)
    · exact derives_gen (drvN secret (sbN s) j) 0 secret.length s _ A c w (drvN_len _ _ _) (by omega) (by omega) (derive_ok secret A c s j w hC hc hk (by omega) (by omega) (by omega) (by omega)) (fun W hW => rderive_ok secret A c s j W (Kd.C_below hC hW) hk (by omega) (by omega) (by omega) (by omega))
theorem derives_walk (secret : List Int) (s : ByteArray) (i : Int) (A : Option Addr) (c : Nat) (w : World) (hC : (Kd.int .u8).C w A secret.length secret) (hc : secret.length ≤ c) (hk : ∀ x ∈ secret, 0 ≤ x ∧ x < 256) (hs : s.size ≤ maxLen) :
    Calls Try.prog 11 #[.slice A secret.length c, .string s, .int .i64 i] w fun e w' => e = .returned (.bool true) ∧ Below w.heap.size w w' := by
  obtain ⟨m1, e1, k1, l1, _⟩ := C_nat (m := 256) hC hk
  rw [← e1]
  exact derives_nat m1 s i A c w k1 (by omega) l1 (by unfold maxLen at hs; omega)
end Go.Proofs.Ytagfplcafeblbaa.Mc
