/-
  Parts of one proof, joined: How the data of a law's arguments read: a kind for each type (whole numbers, bools, texts, slices, structs), each shown once. | seal: SealOpens.
-/
import Derived.Test.YtblnclooobggnaaZB0
import Derived.Test.YtblnclooobggnaaZB1
import Derived.Test.YtblnclooobggnaaZB2
import Derived.Test.YtblnclooobggnaaZB3
import Derived.Test.YtblnclooobggnaaZB4
import Derived.Test.YtblnclooobggnaaZB5
import Derived.Test.YtblnclooobggnaaZD0
import Derived.Test.YtblnclooobggnaaZD1
import Derived.Test.YtblnclooobggnaaZD2
import Derived.ProofKit
import Derived.OpenShut
import Derived.ShutString
import Derived.ChangeOld
import Derived.Below
import Derived.SizedLaws
import Derived.Deep.Slices
import Derived.Deep.Fields
import Derived.ChangeSame

namespace Go.Proofs.Ytblnclooobggnaa.Rd
open Go.RowKit Go.ChangeShapes Go.WideShapes Go.Deep Go.Proofs.Ytblnclooobggnaa.L Go.Proofs.YtblnclooobggnaaW.PrintWords

/-- Whatever data of type t read: there is a value of the kind, its cells those, and it is fine. -/
def Rd (P : Program) (t : TypeId) {α : Type} (d : Kd α) (ok : α → Prop) : Prop :=
  ∀ (H : Type) (enc : TypeId × Value → H) (W : World) (fuel : Nat) (cs : List Value) (x : DataW H × List MemPlace),
    DataW.trod enc P W 0 (fun _ => true) true fuel t cs = some x → (∀ n ∈ x.1.weights P t, n ≤ reachBytes) → ∃ a : α, d.K W a cs ∧ ok a

theorem mem_all {H : Type} {P : Program} {e : TypeId} {n : Nat} : ∀ {l : List (DataW H)} {d : DataW H}, d ∈ l → n ∈ d.weights P e → n ∈ DataW.weightsAll P e l
  | [], _, h, _ => by cases h
  | d0 :: l, d, h, hn => by
    rw [DataW.weightsAll]
    rcases List.mem_cons.1 h with rfl | h
    · exact List.mem_append_left _ hn
    · exact List.mem_append_right _ (mem_all h hn)

theorem exists_list {α : Type} {p : Nat → α → Prop} : ∀ (n : Nat), (∀ i, i < n → ∃ a, p i a) → ∃ l : List α, l.length = n ∧ ∀ i a, l[i]? = some a → p i a
  | 0, _ => ⟨[], rfl, fun i a h => by simp at h⟩
  | n + 1, h => by
    obtain ⟨l, hl, hp⟩ := exists_list n (fun i hi => h i (by omega))
    obtain ⟨a, ha⟩ := h n (by omega)
    refine ⟨l ++ [a], by simp [hl], fun i b hb => ?_⟩
    by_cases hi : i < l.length
    · rw [List.getElem?_append_left hi] at hb
      exact hp i b hb
    · have : i = n := by
        have := (List.getElem?_eq_some_iff.1 hb).1
        simp at this
        omega
      subst this
      rw [List.getElem?_append_right (by omega), hl] at hb
      simp at hb
      subst hb
      exact ha

theorem rd_int {P : Program} {t : TypeId} {k : IntKind} (ht : P.underlying t = some (.int k)) : Rd P t (Kd.int k) (fun n => (Lit.int k n).wf = true) := by
  intro H enc W fuel cs x h _
  cases fuel with
  | zero => cases h
  | succ fuel =>
    unfold DataW.trod at h
    rw [ht] at h
    split at h <;> simp_all
    exact ⟨_, rfl, h.1.2⟩
theorem rd_bool {P : Program} {t : TypeId} (ht : P.underlying t = some .bool) : Rd P t Kd.bool (fun _ => True) := by
  intro H enc W fuel cs x h _
  cases fuel with
  | zero => cases h
  | succ fuel =>
    have hb : ∃ b, cs = [Value.bool b] := by
      unfold DataW.trod at h
      rw [ht] at h
      split at h
      · exact ⟨_, rfl⟩
      all_goals simp_all
    obtain ⟨b, rfl⟩ := hb
    exact ⟨b, rfl, trivial⟩
theorem rd_string {P : Program} {t : TypeId} (ht : P.underlying t = some .string) : Rd P t Kd.string (fun s => s.size ≤ reachBytes) := by
  intro H enc W fuel cs x h hw
  cases fuel with
  | zero => cases h
  | succ fuel =>
    unfold DataW.trod at h
    rw [ht] at h
    split at h <;> simp_all
    obtain ⟨h1, rfl⟩ := h
    exact ⟨_, rfl, by simpa [DataW.weights] using hw⟩

theorem rd_slice {P : Program} {t e : TypeId} {α : Type} {d : Kd α} {ok : α → Prop} {B : Nat} (ht : P.underlying t = some (.slice e)) (hc : P.cellsOf e = d.sz) (hB : P.bytesOf e = B) (he : Rd P e d ok) :
    Rd P t (Kd.slice e d) (fun l => (∀ x ∈ l, ok x) ∧ l.length * B ≤ 140737488351232) := by
  intro H enc W fuel cs x h hw
  rcases open_slice ht h with ⟨rfl, _⟩ | ⟨a, len, cap, m, n, D, Pl, rfl, _, hlc, hcm, hm, rfl, hi⟩
  · exact ⟨[], ⟨none, 0, rfl, Nat.le_refl _, Kd.C_nil d W⟩, by simp, by simp⟩
  · simp only [if_true] at hm
    have hwt : ∀ i, i < len → ∀ n ∈ (D i).weights P e, n ≤ reachBytes := by
      intro i hi n hn
      refine hw n ?_
      simp only [DataW.weights, ht]
      refine List.mem_cons_of_mem _ (List.mem_append_left _ (mem_all ?_ hn))
      exact List.mem_map.2 ⟨i, List.mem_range.2 hi, rfl⟩
    have hlen : len * B ≤ 140737488351232 := by
      have h1 := hw ((((List.range len).map D).length + ((List.range (m - len)).map fun j => D (len + j)).length) * P.bytesOf e) (by simp [DataW.weights, ht])
      rw [hB] at h1
      simp only [List.length_map, List.length_range, reachBytes] at h1
      exact Nat.le_trans (Nat.mul_le_mul_right _ (by omega)) h1
    obtain ⟨l, hl, hp⟩ := exists_list (p := fun i y => ok y ∧ ∃ c, c.length = d.sz ∧ d.K W y c ∧ ∀ j u, c[j]? = some u → W.cell? (a.add (i * d.sz + j)) = some u) len (by
      intro i hil
      obtain ⟨cs', h1, h2⟩ := hi i (by omega)
      obtain ⟨y, hy, hok⟩ := he H enc W n cs' _ h2 (hwt i hil)
      obtain ⟨_, hcl, hat⟩ := World.cells?_some h1
      refine ⟨y, hok, cs', d.K_len hy, hy, fun j u hu => ?_⟩
      have hj : j < P.cellsOf e := by
        have := (List.getElem?_eq_some_iff.1 hu).1
        rw [d.K_len hy] at this
        omega
      rw [← Go.Deep.add_add, ← hc, hat j hj, hu])
    subst hl
    refine ⟨l, ⟨some a, cap, rfl, hlc, ⟨rfl, by simp only [maxLen] at hcm; omega, fun _ => ⟨a, rfl, fun j p hj => (hp j p hj).2⟩⟩⟩, fun y hy => ?_, hlen⟩
    obtain ⟨j, hj⟩ := List.getElem?_of_mem hy
    exact (hp j y hj).1

/-- Some fields of a struct, from a cell on. -/
def RdF (P : Program) (fs : List Field) (off : Nat) {α : Type} (d : Kd α) (ok : α → Prop) : Prop :=
  ∀ (H : Type) (enc : TypeId × Value → H) (W : World) (n : Nat) (cs : List Value) (ys : List (DataW H × List MemPlace)),
    ys.length = fs.length → (∀ (j : Nat) (f : Field), fs[j]? = some f → DataW.trod enc P W 0 (fun _ => true) true n f.type ((cs.drop f.offset).take (P.cellsOf f.type)) = ys[j]?) →
    (∀ m ∈ DataW.weightsEach P (fs.map (fun f : Field => f.type)) (ys.map (·.1)), m ≤ reachBytes) → ∃ a : α, d.K W a ((cs.drop off).take d.sz) ∧ ok a
theorem rdf_one {P : Program} {f : Field} {α : Type} {d : Kd α} {ok : α → Prop} (hc : P.cellsOf f.type = d.sz) (h : Rd P f.type d ok) : RdF P [f] f.offset d ok := by
  intro H enc W n cs ys hl hy hw
  match ys, hl with
  | [y], _ =>
    have h1 := hy 0 f rfl
    rw [hc] at h1
    exact h H enc W n _ y h1 (fun m hm => hw m (by simp [DataW.weightsEach, hm]))
theorem rdf_cons {P : Program} {f : Field} {fs : List Field} {α β : Type} {d : Kd α} {d2 : Kd β} {ok : α → Prop} {ok2 : β → Prop} {off : Nat} (hc : P.cellsOf f.type = d.sz) (ho : f.offset + d.sz = off) (h : Rd P f.type d ok) (h2 : RdF P fs off d2 ok2) :
    RdF P (f :: fs) f.offset (Kd.pair d d2) (fun x => ok x.1 ∧ ok2 x.2) := by
  intro H enc W n cs ys hl hy hw
  match ys, hl with
  | y :: ys, hl =>
    have h1 := hy 0 f rfl
    rw [hc] at h1
    obtain ⟨a, ha, hoka⟩ := h H enc W n _ y h1 (fun m hm => hw m (by simp [DataW.weightsEach, hm]))
    obtain ⟨b, hb, hokb⟩ := h2 H enc W n cs ys (by simpa using hl) (fun j g hj => hy (j + 1) g hj) (fun m hm => hw m (by simp only [List.map_cons, DataW.weightsEach]; exact List.mem_append_right _ hm))
    refine ⟨(a, b), ⟨_, _, ?_, ha, hb⟩, hoka, hokb⟩
    subst ho
    show (cs.drop f.offset).take (d.sz + d2.sz) = _
    rw [List.take_add, List.drop_drop]
theorem rd_struct {P : Program} {t : TypeId} {fs : Array Field} {α : Type} {d : Kd α} {ok : α → Prop} (ht : P.underlying t = some (.struct fs)) (hc : P.cellsOf t = d.sz) (h : RdF P fs.toList 0 d ok) : Rd P t d ok := by
  intro H enc W fuel cs x hx hw
  obtain ⟨ys, n', _, rfl, hlen, hyl, hf⟩ := DataW.trod_struct ht hx
  obtain ⟨a, ha, hok⟩ := h H enc W n' cs ys (by simpa using hyl) (fun j f hj => hf j f (by simpa using hj)) (fun m hm => hw m (by simpa [DataW.weights, ht] using hm))
  refine ⟨a, ?_, hok⟩
  rwa [List.drop_zero, List.take_of_length_le (by omega)] at ha

/-! ### arguments -/
section
variable {H : Type} {enc : TypeId × Value → H} {P : Program} {W : World} {r : Reach} {b0 : Nat} {t : TypeId} {v : Value} {d : DataW H} {ps : List MemPlace}
theorem wt_of {ts : List TypeId} {ds : List (DataW H)} (h : (DataW.weightsEach P ts ds).all (· ≤ reachBytes) = true) (j : Nat) (ht : ts[j]? = some t) (hd : ds[j]? = some d) : ∀ n ∈ d.weights P t, n ≤ reachBytes := by
  intro n hn
  have := List.all_eq_true.1 h _ (DataW.weights_mem_each ht hd n hn)
  simpa using this
theorem arg_slice {α : Type} {e : TypeId} {k : Kd α} {ok : List α → Prop} (ht : P.underlying t = some (.slice e)) (hr : Rd P t (Kd.slice e k) ok) (hv : Value.okWide P W r b0 t v) (hw : ∀ n ∈ d.weights P t, n ≤ reachBytes)
    (h : DataW.Trod enc P W 0 (fun _ => true) true t v d ps) : ∃ A c l, v = .slice A l.length c ∧ l.length ≤ c ∧ k.C W A l.length l ∧ ok l := by
  obtain ⟨a, len, cap, rfl⟩ := okWide_slice ht hv
  obtain ⟨fuel, hf⟩ := h
  obtain ⟨l, ⟨A, c, he, hl, hC⟩, hok⟩ := hr H enc W fuel _ _ hf hw
  simp only [Value.cells, List.cons.injEq, Value.slice.injEq, and_true] at he
  obtain ⟨rfl, rfl, rfl⟩ := he
  exact ⟨_, _, l, rfl, hl, hC, hok⟩
theorem arg_struct {α : Type} {fs : Array Field} {k : Kd α} {ok : α → Prop} (ht : P.underlying t = some (.struct fs)) (hr : Rd P t k ok) (hv : Value.okWide P W r b0 t v) (hw : ∀ n ∈ d.weights P t, n ≤ reachBytes)
    (h : DataW.Trod enc P W 0 (fun _ => true) true t v d ps) : ∃ cs a, v = .agg cs ∧ k.K W a cs.toList ∧ ok a := by
  obtain ⟨cs, rfl, _⟩ := okWide_struct ht hv
  obtain ⟨fuel, hf⟩ := h
  obtain ⟨a, hK, hok⟩ := hr H enc W fuel _ _ hf hw
  exact ⟨cs, a, rfl, hK, hok⟩
theorem arg_lt (h : DataW.Trod enc P W 0 (fun _ => true) true t v d ps) : ∀ x ∈ ps, x.block < W.heap.size := by
  obtain ⟨m, hm⟩ := h
  exact DataW.trod_lt m _ _ _ hm
end

theorem wf_u8 {x : Int} (h : (Lit.int .u8 x).wf = true) : 0 ≤ x ∧ x < 256 := by
  have h1 : IntKind.u8.min = 0 := rfl
  have h2 : IntKind.u8.max = 255 := rfl
  simp only [Lit.wf, Bool.and_eq_true, decide_eq_true_eq] at h
  omega
theorem wf_u32 {x : Int} (h : (Lit.int .u32 x).wf = true) : 0 ≤ x ∧ x < 4294967296 := by
  have h1 : IntKind.u32.min = 0 := rfl
  have h2 : IntKind.u32.max = 4294967295 := rfl
  simp only [Lit.wf, Bool.and_eq_true, decide_eq_true_eq] at h
  omega
theorem wf_u64 {x : Int} (h : (Lit.int .u64 x).wf = true) : 0 ≤ x ∧ x < 18446744073709551616 := by
  have h1 : IntKind.u64.min = 0 := rfl
  have h2 : IntKind.u64.max = 18446744073709551615 := rfl
  simp only [Lit.wf, Bool.and_eq_true, decide_eq_true_eq] at h
  omega
theorem wf_i64 {x : Int} (h : (Lit.int .i64 x).wf = true) : -9223372036854775808 ≤ x ∧ x < 9223372036854775808 := by
  have h1 : IntKind.i64.min = -9223372036854775808 := rfl
  have h2 : IntKind.i64.max = 9223372036854775807 := rfl
  simp only [Lit.wf, Bool.and_eq_true, decide_eq_true_eq] at h
  omega
theorem rd_bytes : Rd Try.prog 41 (Kd.slice 5 (Kd.int .u8)) (fun l => (∀ x ∈ l, (Lit.int .u8 x).wf = true) ∧ l.length * 1 ≤ 140737488351232) :=
  rd_slice Try.underlying41 (by kernel_rfl) (by kernel_rfl) (rd_int Try.underlying5)

end Go.Proofs.Ytblnclooobggnaa.Rd

namespace Go.Proofs.Ytblnclooobggnaa.Se
open Go.RowKit Go.Proofs.Ytblnclooobggnaa.L Go.Proofs.Ytblnclooobggnaa.N Go.Proofs.Ytblnclooobggnaa.A Go.Proofs.Ytblnclooobggnaa.Mc Go.Proofs.YtblnclooobggnaaW.PrintWords

/-- the number that eight bytes tell, as a side's nonce -/
theorem head_num {l : List Nat} (h8 : ∀ x ∈ l, x < 256) (hl : 8 ≤ l.length) : ∃ s2 n, (s2 = 0 ∨ s2 = 1) ∧ n ≤ 9223372036854775807 ∧ ∀ k, k < 8 → l.getD k 0 = (be8 (numN s2 n)).getD k 0 := by
  have g : ∀ k, k < 8 → l.getD k 0 < 256 := fun k hk => getD_lt (by omega) h8
  have g0 := g 0 (by decide)
  have g1 := g 1 (by decide)
  have g2 := g 2 (by decide)
  have g3 := g 3 (by decide)
  have g4 := g 4 (by decide)
  have g5 := g 5 (by decide)
  have g6 := g 6 (by decide)
  have g7 := g 7 (by decide)
  obtain ⟨N, hN⟩ : ∃ N, N = ((((((l.getD 0 0 * 256 + l.getD 1 0) * 256 + l.getD 2 0) * 256 + l.getD 3 0) * 256 + l.getD 4 0) * 256 + l.getD 5 0) * 256 + l.getD 6 0) * 256 + l.getD 7 0 := ⟨_, rfl⟩
  refine ⟨N / 9223372036854775808, N % 9223372036854775808, by omega, by omega, fun k hk => ?_⟩
  have e : numN (N / 9223372036854775808) (N % 9223372036854775808) = N := by unfold numN; omega
  rw [e, be8_get N hk]
  rcases (show k = 0 ∨ k = 1 ∨ k = 2 ∨ k = 3 ∨ k = 4 ∨ k = 5 ∨ k = 6 ∨ k = 7 from by omega) with rfl | rfl | rfl | rfl | rfl | rfl | rfl | rfl
  · show l.getD 0 0 = N / 72057594037927936 % 256; omega
  · show l.getD 1 0 = N / 281474976710656 % 256; omega
  · show l.getD 2 0 = N / 1099511627776 % 256; omega
  · show l.getD 3 0 = N / 4294967296 % 256; omega
  · show l.getD 4 0 = N / 16777216 % 256; omega
  · show l.getD 5 0 = N / 65536 % 256; omega
  · show l.getD 6 0 = N / 256 % 256; omega
  · show l.getD 7 0 = N / 1 % 256; rw [Nat.div_one]; omega
/-- what the program's Open tells, over the world where the law began -/
def P3 (w0 : World) (n : Nat) (l : List Nat) (code : Int) (e : Ending) (w' : World) : Prop := ∃ A c, e = .returned (.tuple #[.int .u64 (n : Int), .slice A l.length c, .int .i64 code]) ∧ (Kd.int .u8).C w' A l.length (nat l) ∧ Below w0.heap.size w0 w'
theorem both (secret l : List Nat) (A B : Option Addr) (ca cb s t g p q : Nat) (w w1 : World) (hst : s + t = 1) (hw : Below w.heap.size w w1) (ho : w.heap.size ≤ g ∧ w.heap.size ≤ p ∧ w.heap.size ≤ q) (hne : g ≠ p ∧ g ≠ q) (hse : SE g p q s (hideK secret) (markK secret) 1 0 w1)
    (hA : (Kd.int .u8).C w A secret.length (nat secret)) (ha : ∀ x ∈ secret, x < 256) (hal : secret.length ≤ 100) (hB : (Kd.int .u8).C w B l.length (nat l)) (hc : l.length ≤ cb) (hl8 : ∀ x ∈ l, x < 256) (hlm : l.length ≤ 9223372036854775807) :
    ∃ n rl code, Calls Try.prog 31 #[.pointer (some ⟨g, 0, none⟩), .slice B l.length cb] w1 (P3 w n rl code) ∧ ∀ W, Below w.heap.size w W → Calls Try.prog 34 #[.slice A secret.length ca, .int .i64 (s : Int), .slice B l.length cb] W (O3 n rl code W) := by
  have hB1 := Kd.C_below hB hw
  have hm8 : ∀ x ∈ markK secret, x < 256 := drvN_lt _ _ _
  have same : ∀ {n : Nat} {code : Int}, (Calls Try.prog 31 #[.pointer (some ⟨g, 0, none⟩), .slice B l.length cb] w1 fun e w' => e = .returned (.tuple #[.int .u64 (n : Int), .slice none 0 0, .int .i64 code]) ∧ w' = w1) → Calls Try.prog 31 #[.pointer (some ⟨g, 0, none⟩), .slice B l.length cb] w1 (P3 w n [] code) := fun h => h.mono fun e w' ⟨he, hw'⟩ => ⟨none, 0, he, C_nothing _, by rw [hw']; exact hw⟩
  have grow : ∀ {n : Nat} {code : Int}, (Calls Try.prog 31 #[.pointer (some ⟨g, 0, none⟩), .slice B l.length cb] w1 fun e w' => e = .returned (.tuple #[.int .u64 (n : Int), .slice none 0 0, .int .i64 code]) ∧ Below w1.heap.size w1 w') → Calls Try.prog 31 #[.pointer (some ⟨g, 0, none⟩), .slice B l.length cb] w1 (P3 w n [] code) := fun h => h.mono fun e w' ⟨he, hw'⟩ => ⟨none, 0, he, C_nothing _, hw.trans (hw'.mono hw.size)⟩
  by_cases h24 : l.length < 24
  · exact ⟨0, [], 10, same (n := 0) (open_short g p q s 1 0 _ _ l B cb w1 hse h24), fun W _ => ropen_short A B secret.length ca l.length cb s W h24 hlm⟩
  by_cases h536 : 536 < l.length
  · exact ⟨0, [], 2, same (n := 0) (open_long g p l.length cb B w1 hse.c1 h536 hlm), fun W _ => ropen_long A B secret.length ca l.length cb s W h536 hlm⟩
  cases hr : rightN (markK secret) (l.drop (l.length - 16)) (l.take (l.length - 16)) with
  | false => exact ⟨0, [], 20, grow (n := 0) (open_tag g p q s 1 0 _ _ l B cb w1 hse hm8 hB1 hc hl8 (by omega) (by omega) hr), fun W hW => ropen_tag secret l A B ca cb s W (Kd.C_below hA hW) ha (by omega) (Kd.C_below hB hW) hc hl8 (by omega) (by omega) hr⟩
  | true =>
    obtain ⟨s2, n, hs2, hn, hb⟩ := head_num hl8 (by omega)
    by_cases h0 : n = 0
    · subst h0
      exact ⟨0, [], 21, grow (n := 0) (open_none g p q s s2 1 0 _ _ l B cb w1 hse hs2 hm8 hB1 hc hl8 (by omega) (by omega) hr hb), fun W hW => ropen_side secret l A B ca cb s s2 0 W (Kd.C_below hA hW) ha (by omega) (Kd.C_below hB hW) hc hl8 (by omega) (by omega) hr hs2 hn hb (.inl rfl)⟩
    · by_cases hss : s2 = s
      · exact ⟨0, [], 21, grow (n := 0) (open_side g p q s s2 t n 1 0 _ _ l B cb w1 hse hs2 (by omega) hst hss ⟨by omega, hn⟩ hm8 hB1 hc hl8 (by omega) (by omega) hr hb), fun W hW => ropen_side secret l A B ca cb s s2 n W (Kd.C_below hA hW) ha (by omega) (Kd.C_below hB hW) hc hl8 (by omega) (by omega) hr hs2 hn hb (.inr hss)⟩
      · obtain ⟨pl, hpl⟩ : ∃ x, hideN (hideK secret) (numN s2 n) ((l.take (l.length - 16)).drop 8) = x := ⟨_, rfl⟩
        have hH : (l.take (l.length - 16)).drop 8 = hideN (hideK secret) (numN s2 n) pl := by rw [← hpl, hide_hide]
        have hll : ((l.take (l.length - 16)).drop 8).length = l.length - 24 := by rw [List.length_drop, List.length_take]; omega
        have hlen : l.length = pl.length + 24 := by rw [← hpl, hideN_len, hll]; omega
        have hp8 : ∀ x ∈ pl, x < 256 := by rw [← hpl]; exact hideN_lt (drvN_lt _ _ _) _ (drop_lt _ (take_lt _ hl8))
        refine ⟨n, pl, 0, ?_, fun W hW => ?_⟩
        · refine (open_ok g p q s s2 t n 1 0 _ _ l pl B cb w1 hse (by decide) (drvN_len _ _ _) (drvN_lt _ _ _) hp8 (by omega) hne hH hlen hs2 (by omega) hst (by omega) ⟨by omega, hn⟩ hm8 hB1 hc hl8 hr hb).mono ?_
          rintro e w' ⟨v, rfl, ⟨A', c', rfl, _, hC', _⟩, _, hgr⟩
          exact ⟨A', c', rfl, hC', hgr.low hw ho.1 ho.2.2 hw.size⟩
        · rw [← hpl]
          exact ropen_ok secret l A B ca cb s s2 n W (Kd.C_below hA hW) ha (by omega) (Kd.C_below hB hW) hc hl8 (by omega) (by omega) hr hs2 hn hb ⟨h0, hss⟩
set_option maxRecDepth 100000 in
set_option maxHeartbeats 12800000 in
theorem sealopens_nat (secret l : List Nat) (A B : Option Addr) (ca cb sd : Nat) (w : World) (hA : (Kd.int .u8).C w A secret.length (nat secret)) (hca : secret.length ≤ ca) (ha : ∀ x ∈ secret, x < 256) (hB : (Kd.int .u8).C w B l.length (nat l)) (hcb : l.length ≤ cb) (hb8 : ∀ x ∈ l, x < 256) (hsd : sd < 256) :
    Calls Try.prog 12 #[.slice A secret.length ca, .int .u8 (sd : Int), .slice B l.length cb] w fun e w' => e = .returned (.bool true) ∧ Below w.heap.size w w' := by
  have hmB := (B_open hB).1
  by_cases hg0 : secret.length = 0
  · have HAl := Lib.hid (alive07_any w)
    have e0 : ((secret.length : Int) == 0) = true := beq_iff_eq.2 (by omega)
    have e0n : (secret.length == 0) = true := beq_iff_eq.2 (by omega)
    clear hA hca ha hB hcb hb8 hsd hg0
    go_enter Try.func12, Try.ntmps12
    go_wp2_with fail
    refine HAl.out.mono ?_
    rintro e w1 ⟨rfl, hb⟩
    go_wp2_with fail
    go_ret
    exact ⟨rfl, hb⟩
  have e0 : ((secret.length : Int) == 0) = false := beq_eq_false_iff_ne.2 (by omega)
  have e0n : (secret.length == 0) = false := beq_eq_false_iff_ne.2 (by omega)
  by_cases hg1 : 100 < secret.length
  · have HAl := Lib.hid (alive07_any w)
    have tg_secret : decide ((100 : Int) < (secret.length : Int)) = true := decide_eq_true (by omega)
    clear hA hca ha hB hcb hb8 hsd hg0 hg1
    go_enter Try.func12, Try.ntmps12
    go_wp2_with fail
    refine HAl.out.mono ?_
    rintro e w1 ⟨rfl, hb⟩
    go_wp2_with fail
    go_ret
    exact ⟨rfl, hb⟩
  have tg_secret : decide ((100 : Int) < (secret.length : Int)) = false := decide_eq_false (by omega)
  by_cases hg2 : 100 < l.length ∧ l.length ≤ 536
  · have HAl := Lib.hid (alive07_any w)
    have tm1 : decide ((100 : Int) < (l.length : Int)) = true := decide_eq_true (by omega)
    have tm2 : decide ((l.length : Int) ≤ 536) = true := decide_eq_true (by omega)
    clear hA hca ha hB hcb hb8 hsd hg0 hg1 hg2
    go_enter Try.func12, Try.ntmps12
    go_wp2_with fail
    refine HAl.out.mono ?_
    rintro e w1 ⟨rfl, hb⟩
    go_wp2_with fail
    go_ret
    exact ⟨rfl, hb⟩
  by_cases hg3 : 600 < l.length
  · have HAl := Lib.hid (alive07_any w)
    have tm1 : decide ((100 : Int) < (l.length : Int)) = true := decide_eq_true (by omega)
    have tm2 : decide ((l.length : Int) ≤ 536) = false := decide_eq_false (by omega)
    have tm3 : decide ((600 : Int) < (l.length : Int)) = true := decide_eq_true (by omega)
    clear hA hca ha hB hcb hb8 hsd hg0 hg1 hg2 hg3
    go_enter Try.func12, Try.ntmps12
    go_wp2_with fail
    refine HAl.out.mono ?_
    rintro e w1 ⟨rfl, hb⟩
    go_wp2_with fail
    go_ret
    exact ⟨rfl, hb⟩
  obtain ⟨s, hs⟩ : ∃ s, sd % 2 = s := ⟨_, rfl⟩
  have hand : bits .and .u8 (sd : Int) 1 = (s : Int) := by
    have := and_u8 sd 1 hsd (by decide)
    rw [Nat.and_one_is_mod, hs] at this
    exact this
  have hs01 : s = 0 ∨ s = 1 := by omega
  have HN := Lib.hid (newseal_any secret A ca s w hA hca ha (by omega) (by omega) hs01)
  have HBo := Lib.hid (fun g p q w1 hw ho hne hse => both secret l A B ca cb s (1 - s) g p q w w1 (by omega) hw ho hne hse hA ha (by omega) hB hcb hb8 hmB)
  have zs : (s : Int) ≤ 1 := by omega
  have zs0 : (0 : Int) ≤ (s : Int) := by omega
  have zl : (l.length : Int) ≤ 600 := by omega
  have HG := Lib.hid hg2
  have tm3 : decide ((600 : Int) < (l.length : Int)) = false := decide_eq_false (by omega)
  by_cases hlong : 100 < l.length
  · have tm1 : decide ((100 : Int) < (l.length : Int)) = true := decide_eq_true (by omega)
    have tm2 : decide ((l.length : Int) ≤ 536) = false := decide_eq_false (by omega)
    clear hA hca ha hB hcb hb8 hsd hg0 hg1 hg2 hg3 hmB hs hs01 hlong
    go_enter Try.func12, Try.ntmps12
    go_wp2_with fail
    refine HN.out.mono ?_
    rintro e w1 ⟨g, p, q, rfl, hg, hp, hqq, hgq, hse, hb⟩
    obtain ⟨n, rl, code, hP, hR⟩ := HBo.out g p q w1 hb ⟨hg, hp, hqq⟩ hgq hse
    have HP := Lib.hid hP
    have HR := Lib.hid hR
    clear hg hp hqq hgq hse hb hP hR HN HBo
    go_wp2_with fail
    refine HP.out.mono ?_
    rintro e w2 ⟨A2, c2, rfl, hC2, hb2⟩
    have HC2 := Lib.hid hC2
    have HB2 := Lib.hid hb2
    clear hC2 hb2 HP
    have HQ := Lib.hid (HR.out w2 HB2.out)
    go_wp2_with fail
    refine HQ.out.mono ?_
    rintro e w3 ⟨A3, c3, rfl, hC3, hb3⟩
    have HC3 := Lib.hid hC3
    have HC23 := Lib.hid (Kd.C_below HC2.out hb3)
    have HB3 := Lib.hid (HB2.out.trans (hb3.mono HB2.out.size))
    clear hC3 hb3 HQ HR HC2 HB2 hand
    go_upto_region 10 with (fail)
    refine wp_at fun w4 hw4 => ?_
    have hb4 : Below w3.heap.size w3 w4 := by rw [hw4]; exact (Below.refl _ _).alloc (Nat.le_refl _) _
    have hz : w4.cell? ⟨w3.heap.size, 1, none⟩ = some (.pointer none) := by rw [hw4, blk_cell (heap_alloc_new w3 _)]; rfl
    obtain ⟨bz, hbz⟩ : ∃ b, w3.heap.size = b := ⟨_, rfl⟩
    rw [hbz] at hz
    try rw [hbz]
    have HZ := Lib.hid hz
    have HC24 := Lib.hid (Kd.C_below HC23.out hb4)
    have HC34 := Lib.hid (Kd.C_below HC3.out hb4)
    have HB4 := Lib.hid (HB3.out.trans (hb4.mono HB3.out.size))
    clear hw4 hb4 hz hbz HC23 HC3 HB3
    go_wp2_with fail
    refine (seal_nil _ w4).mono ?_
    rintro e w5 ⟨rfl, hw⟩
    rw [hw]
    clear hw w5
    go_wp2_with fail
    refine (open_zeroS bz _ w4 HZ.out).mono ?_
    rintro e w5 ⟨rfl, hw⟩
    rw [hw]
    clear hw w5
    go_wp2_with fail
    refine (alive07_any w4).mono ?_
    rintro e w5 ⟨rfl, hb5⟩
    have HZ5 := Lib.hid (pw_cell_below hb5 HZ.out)
    have q1 : (convert 41 9 (.slice A2 rl.length c2)).run Try.prog w5 = .ok (.string (strOfNums (nat rl))) w5 := strS rfl (Kd.C_below HC24.out hb5)
    have q2 : (convert 41 9 (.slice A3 rl.length c3)).run Try.prog w5 = .ok (.string (strOfNums (nat rl))) w5 := strS rfl (Kd.C_below HC34.out hb5)
    have HB5 := Lib.hid (HB4.out.trans (hb5.mono HB4.out.size))
    clear hb5 HZ HC24 HC34 HB4
    go_wp2_with fail
    refine (skip_nil _ w5).mono ?_
    rintro e w6 ⟨rfl, hw⟩
    rw [hw]
    clear hw w6
    go_wp2_with fail
    refine (next_nil w5).mono ?_
    rintro e w6 ⟨rfl, hw⟩
    rw [hw]
    clear hw w6
    go_wp2_with fail
    refine (next_zero bz w5 HZ5.out).mono ?_
    rintro e w6 ⟨rfl, hw⟩
    rw [hw]
    clear hw w6
    go_wp2_with fail
    go_ret
    exact ⟨rfl, HB5.out⟩
  · have tm1 : decide ((100 : Int) < (l.length : Int)) = false := decide_eq_false (by omega)
    clear hA hca ha hB hcb hb8 hsd hg0 hg1 hg2 hg3 hmB hs hs01 hlong
    go_enter Try.func12, Try.ntmps12
    go_wp2_with fail
    refine HN.out.mono ?_
    rintro e w1 ⟨g, p, q, rfl, hg, hp, hqq, hgq, hse, hb⟩
    obtain ⟨n, rl, code, hP, hR⟩ := HBo.out g p q w1 hb ⟨hg, hp, hqq⟩ hgq hse
    have HP := Lib.hid hP
    have HR := Lib.hid hR
    clear hg hp hqq hgq hse hb hP hR HN HBo
    go_wp2_with fail
    refine HP.out.mono ?_
    rintro e w2 ⟨A2, c2, rfl, hC2, hb2⟩
    have HC2 := Lib.hid hC2
    have HB2 := Lib.hid hb2
    clear hC2 hb2 HP
    have HQ := Lib.hid (HR.out w2 HB2.out)
    go_wp2_with fail
    refine HQ.out.mono ?_
    rintro e w3 ⟨A3, c3, rfl, hC3, hb3⟩
    have HC3 := Lib.hid hC3
    have HC23 := Lib.hid (Kd.C_below HC2.out hb3)
    have HB3 := Lib.hid (HB2.out.trans (hb3.mono HB2.out.size))
    clear hC3 hb3 HQ HR HC2 HB2 hand
    go_upto_region 10 with (fail)
    refine wp_at fun w4 hw4 => ?_
    have hb4 : Below w3.heap.size w3 w4 := by rw [hw4]; exact (Below.refl _ _).alloc (Nat.le_refl _) _
    have hz : w4.cell? ⟨w3.heap.size, 1, none⟩ = some (.pointer none) := by rw [hw4, blk_cell (heap_alloc_new w3 _)]; rfl
    obtain ⟨bz, hbz⟩ : ∃ b, w3.heap.size = b := ⟨_, rfl⟩
    rw [hbz] at hz
    try rw [hbz]
    have HZ := Lib.hid hz
    have HC24 := Lib.hid (Kd.C_below HC23.out hb4)
    have HC34 := Lib.hid (Kd.C_below HC3.out hb4)
    have HB4 := Lib.hid (HB3.out.trans (hb4.mono HB3.out.size))
    clear hw4 hb4 hz hbz HC23 HC3 HB3
    go_wp2_with fail
    refine (seal_nil _ w4).mono ?_
    rintro e w5 ⟨rfl, hw⟩
    rw [hw]
    clear hw w5
    go_wp2_with fail
    refine (open_zeroS bz _ w4 HZ.out).mono ?_
    rintro e w5 ⟨rfl, hw⟩
    rw [hw]
    clear hw w5
    go_wp2_with fail
    refine (alive07_any w4).mono ?_
    rintro e w5 ⟨rfl, hb5⟩
    have HZ5 := Lib.hid (pw_cell_below hb5 HZ.out)
    have q1 : (convert 41 9 (.slice A2 rl.length c2)).run Try.prog w5 = .ok (.string (strOfNums (nat rl))) w5 := strS rfl (Kd.C_below HC24.out hb5)
    have q2 : (convert 41 9 (.slice A3 rl.length c3)).run Try.prog w5 = .ok (.string (strOfNums (nat rl))) w5 := strS rfl (Kd.C_below HC34.out hb5)
    have HB5 := Lib.hid (HB4.out.trans (hb5.mono HB4.out.size))
    clear hb5 HZ HC24 HC34 HB4
    go_wp2_with fail
    refine (skip_nil _ w5).mono ?_
    rintro e w6 ⟨rfl, hw⟩
    rw [hw]
    clear hw w6
    go_wp2_with fail
    refine (next_nil w5).mono ?_
    rintro e w6 ⟨rfl, hw⟩
    rw [hw]
    clear hw w6
    go_wp2_with fail
    refine (next_zero bz w5 HZ5.out).mono ?_
    rintro e w6 ⟨rfl, hw⟩
    rw [hw]
    clear hw w6
    go_wp2_with fail
    go_ret
    exact ⟨rfl, HB5.out⟩
theorem sealopens_walk (secret l : List Int) (A B : Option Addr) (ca cb : Nat) (sd : Int) (w : World) (hA : (Kd.int .u8).C w A secret.length secret) (hca : secret.length ≤ ca) (ha : ∀ x ∈ secret, 0 ≤ x ∧ x < 256) (hB : (Kd.int .u8).C w B l.length l) (hcb : l.length ≤ cb) (hb8 : ∀ x ∈ l, 0 ≤ x ∧ x < 256) (hsd : 0 ≤ sd ∧ sd < 256) :
    Calls Try.prog 12 #[.slice A secret.length ca, .int .u8 sd, .slice B l.length cb] w fun e w' => e = .returned (.bool true) ∧ Below w.heap.size w w' := by
  obtain ⟨m1, e1, k1, l1, _⟩ := C_nat (m := 256) hA ha
  obtain ⟨m2, e2, k2, l2, _⟩ := C_nat (m := 256) hB hb8
  obtain ⟨a, rfl⟩ : ∃ k : Nat, sd = (k : Int) := ⟨sd.toNat, by omega⟩
  rw [← e1, ← e2]
  exact sealopens_nat m1 m2 A B ca cb a w k1 (by omega) l1 k2 (by omega) l2 (by omega)
end Go.Proofs.Ytblnclooobggnaa.Se
