/-
  Parts of one proof, joined: How the data of a law's arguments read: a kind for each type (whole numbers, bools, texts, slices, structs), each shown once. | seal: SealBack. | How arguments are read: rows of rows of bytes.
-/
import Derived.Test.YtblnclooobggnaaZB0
import Derived.Test.YtblnclooobggnaaZB1
import Derived.Test.YtblnclooobggnaaZB2
import Derived.Test.YtblnclooobggnaaZB3
import Derived.Test.YtblnclooobggnaaZB4
import Derived.Test.YtblnclooobggnaaZB5
import Derived.ProofKit
import Derived.OpenShut
import Derived.ShutString
import Derived.ChangeOld
import Derived.Below
import Derived.SizedLaws
import Derived.Deep.Slices
import Derived.Deep.Fields
import Derived.ChangeSame

namespace Go.Proofs.Ytblnclooobggnaa.Rd
open Go.RowKit Go.ChangeShapes Go.WideShapes Go.Deep Go.Proofs.Ytblnclooobggnaa.L Go.Proofs.YtblnclooobggnaaW.PrintWords

/-- Whatever data of type t read: there is a value of the kind, its cells those, and it is fine. -/
def Rd (P : Program) (t : TypeId) {α : Type} (d : Kd α) (ok : α → Prop) : Prop :=
  ∀ (H : Type) (enc : TypeId × Value → H) (W : World) (fuel : Nat) (cs : List Value) (x : DataW H × List MemPlace),
    DataW.trod enc P W 0 (fun _ => true) true fuel t cs = some x → (∀ n ∈ x.1.weights P t, n ≤ reachBytes) → ∃ a : α, d.K W a cs ∧ ok a

theorem mem_all {H : Type} {P : Program} {e : TypeId} {n : Nat} : ∀ {l : List (DataW H)} {d : DataW H}, d ∈ l → n ∈ d.weights P e → n ∈ DataW.weightsAll P e l
  | [], _, h, _ => by cases h
  | d0 :: l, d, h, hn => by
    rw [DataW.weightsAll]
    rcases List.mem_cons.1 h with rfl | h
    · exact List.mem_append_left _ hn
    · exact List.mem_append_right _ (mem_all h hn)

theorem exists_list {α : Type} {p : Nat → α → Prop} : ∀ (n : Nat), (∀ i, i < n → ∃ a, p i a) → ∃ l : List α, l.length = n ∧ ∀ i a, l[i]? = some a → p i a
  | 0, _ => ⟨[], rfl, fun i a h => by simp at h⟩
  | n + 1, h => by
    obtain ⟨l, hl, hp⟩ := exists_list n (fun i hi => h i (by omega))
    obtain ⟨a, ha⟩ := h n (by omega)
    refine ⟨l ++ [a], by simp [hl], fun i b hb => ?_⟩
    by_cases hi : i < l.length
    · rw [List.getElem?_append_left hi] at hb
      exact hp i b hb
    · have : i = n := by
        have := (List.getElem?_eq_some_iff.1 hb).1
        simp at this
        omega
      subst this
      rw [List.getElem?_append_right (by omega), hl] at hb
      simp at hb
      subst hb
      exact ha

theorem rd_int {P : Program} {t : TypeId} {k : IntKind} (ht : P.underlying t = some (.int k)) : Rd P t (Kd.int k) (fun n => (Lit.int k n).wf = true) := by
  intro H enc W fuel cs x h _
  cases fuel with
  | zero => cases h
  | succ fuel =>
    unfold DataW.trod at h
    rw [ht] at h
    split at h <;> simp_all
    exact ⟨_, rfl, h.1.2⟩
theorem rd_bool {P : Program} {t : TypeId} (ht : P.underlying t = some .bool) : Rd P t Kd.bool (fun _ => True) := by
  intro H enc W fuel cs x h _
  cases fuel with
  | zero => cases h
  | succ fuel =>
    have hb : ∃ b, cs = [Value.bool b] := by
      unfold DataW.trod at h
      rw [ht] at h
      split at h
      · exact ⟨_, rfl⟩
      all_goals simp_all
    obtain ⟨b, rfl⟩ := hb
    exact ⟨b, rfl, trivial⟩
theorem rd_string {P : Program} {t : TypeId} (ht : P.underlying t = some .string) : Rd P t Kd.string (fun s => s.size ≤ reachBytes) := by
  intro H enc W fuel cs x h hw
  cases fuel with
  | zero => cases h
  | succ fuel =>
    unfold DataW.trod at h
    rw [ht] at h
    split at h <;> simp_all
    obtain ⟨h1, rfl⟩ := h
    exact ⟨_, rfl, by simpa [DataW.weights] using hw⟩

theorem rd_slice {P : Program} {t e : TypeId} {α : Type} {d : Kd α} {ok : α → Prop} {B : Nat} (ht : P.underlying t = some (.slice e)) (hc : P.cellsOf e = d.sz) (hB : P.bytesOf e = B) (he : Rd P e d ok) :
    Rd P t (Kd.slice e d) (fun l => (∀ x ∈ l, ok x) ∧ l.length * B ≤ 140737488351232) := by
  intro H enc W fuel cs x h hw
  rcases open_slice ht h with ⟨rfl, _⟩ | ⟨a, len, cap, m, n, D, Pl, rfl, _, hlc, hcm, hm, rfl, hi⟩
  · exact ⟨[], ⟨none, 0, rfl, Nat.le_refl _, Kd.C_nil d W⟩, by simp, by simp⟩
  · simp only [if_true] at hm
    have hwt : ∀ i, i < len → ∀ n ∈ (D i).weights P e, n ≤ reachBytes := by
      intro i hi n hn
      refine hw n ?_
      simp only [DataW.weights, ht]
      refine List.mem_cons_of_mem _ (List.mem_append_left _ (mem_all ?_ hn))
      exact List.mem_map.2 ⟨i, List.mem_range.2 hi, rfl⟩
    have hlen : len * B ≤ 140737488351232 := by
      have h1 := hw ((((List.range len).map D).length + ((List.range (m - len)).map fun j => D (len + j)).length) * P.bytesOf e) (by simp [DataW.weights, ht])
      rw [hB] at h1
      simp only [List.length_map, List.length_range, reachBytes] at h1
      exact Nat.le_trans (Nat.mul_le_mul_right _ (by omega)) h1
    obtain ⟨l, hl, hp⟩ := exists_list (p := fun i y => ok y ∧ ∃ c, c.length = d.sz ∧ d.K W y c ∧ ∀ j u, c[j]? = some u → W.cell? (a.add (i * d.sz + j)) = some u) len (by
      intro i hil
      obtain ⟨cs', h1, h2⟩ := hi i (by omega)
      obtain ⟨y, hy, hok⟩ := he H enc W n cs' _ h2 (hwt i hil)
      obtain ⟨_, hcl, hat⟩ := World.cells?_some h1
      refine ⟨y, hok, cs', d.K_len hy, hy, fun j u hu => ?_⟩
      have hj : j < P.cellsOf e := by
        have := (List.getElem?_eq_some_iff.1 hu).1
        rw [d.K_len hy] at this
        omega
      rw [← Go.Deep.add_add, ← hc, hat j hj, hu])
    subst hl
    refine ⟨l, ⟨some a, cap, rfl, hlc, ⟨rfl, by simp only [maxLen] at hcm; omega, fun _ => ⟨a, rfl, fun j p hj => (hp j p hj).2⟩⟩⟩, fun y hy => ?_, hlen⟩
    obtain ⟨j, hj⟩ := List.getElem?_of_mem hy
    exact (hp j y hj).1

/-- Some fields of a struct, from a cell on. -/
def RdF (P : Program) (fs : List Field) (off : Nat) {α : Type} (d : Kd α) (ok : α → Prop) : Prop :=
  ∀ (H : Type) (enc : TypeId × Value → H) (W : World) (n : Nat) (cs : List Value) (ys : List (DataW H × List MemPlace)),
    ys.length = fs.length → (∀ (j : Nat) (f : Field), fs[j]? = some f → DataW.trod enc P W 0 (fun _ => true) true n f.type ((cs.drop f.offset).take (P.cellsOf f.type)) = ys[j]?) →
    (∀ m ∈ DataW.weightsEach P (fs.map (fun f : Field => f.type)) (ys.map (·.1)), m ≤ reachBytes) → ∃ a : α, d.K W a ((cs.drop off).take d.sz) ∧ ok a
theorem rdf_one {P : Program} {f : Field} {α : Type} {d : Kd α} {ok : α → Prop} (hc : P.cellsOf f.type = d.sz) (h : Rd P f.type d ok) : RdF P [f] f.offset d ok := by
  intro H enc W n cs ys hl hy hw
  match ys, hl with
  | [y], _ =>
    have h1 := hy 0 f rfl
    rw [hc] at h1
    exact h H enc W n _ y h1 (fun m hm => hw m (by simp [DataW.weightsEach, hm]))
theorem rdf_cons {P : Program} {f : Field} {fs : List Field} {α β : Type} {d : Kd α} {d2 : Kd β} {ok : α → Prop} {ok2 : β → Prop} {off : Nat} (hc : P.cellsOf f.type = d.sz) (ho : f.offset + d.sz = off) (h : Rd P f.type d ok) (h2 : RdF P fs off d2 ok2) :
    RdF P (f :: fs) f.offset (Kd.pair d d2) (fun x => ok x.1 ∧ ok2 x.2) := by
  intro H enc W n cs ys hl hy hw
  match ys, hl with
  | y :: ys, hl =>
    have h1 := hy 0 f rfl
    rw [hc] at h1
    obtain ⟨a, ha, hoka⟩ := h H enc W n _ y h1 (fun m hm => hw m (by simp [DataW.weightsEach, hm]))
    obtain ⟨b, hb, hokb⟩ := h2 H enc W n cs ys (by simpa using hl) (fun j g hj => hy (j + 1) g hj) (fun m hm => hw m (by simp only [List.map_cons, DataW.weightsEach]; exact List.mem_append_right _ hm))
    refine ⟨(a, b), ⟨_, _, ?_, ha, hb⟩, hoka, hokb⟩
    subst ho
    show (cs.drop f.offset).take (d.sz + d2.sz) = _
    rw [List.take_add, List.drop_drop]
theorem rd_struct {P : Program} {t : TypeId} {fs : Array Field} {α : Type} {d : Kd α} {ok : α → Prop} (ht : P.underlying t = some (.struct fs)) (hc : P.cellsOf t = d.sz) (h : RdF P fs.toList 0 d ok) : Rd P t d ok := by
  intro H enc W fuel cs x hx hw
  obtain ⟨ys, n', _, rfl, hlen, hyl, hf⟩ := DataW.trod_struct ht hx
  obtain ⟨a, ha, hok⟩ := h H enc W n' cs ys (by simpa using hyl) (fun j f hj => hf j f (by simpa using hj)) (fun m hm => hw m (by simpa [DataW.weights, ht] using hm))
  refine ⟨a, ?_, hok⟩
  rwa [List.drop_zero, List.take_of_length_le (by omega)] at ha

/-! ### arguments -/
section
variable {H : Type} {enc : TypeId × Value → H} {P : Program} {W : World} {r : Reach} {b0 : Nat} {t : TypeId} {v : Value} {d : DataW H} {ps : List MemPlace}
theorem wt_of {ts : List TypeId} {ds : List (DataW H)} (h : (DataW.weightsEach P ts ds).all (· ≤ reachBytes) = true) (j : Nat) (ht : ts[j]? = some t) (hd : ds[j]? = some d) : ∀ n ∈ d.weights P t, n ≤ reachBytes := by
  intro n hn
  have := List.all_eq_true.1 h _ (DataW.weights_mem_each ht hd n hn)
  simpa using this
theorem arg_slice {α : Type} {e : TypeId} {k : Kd α} {ok : List α → Prop} (ht : P.underlying t = some (.slice e)) (hr : Rd P t (Kd.slice e k) ok) (hv : Value.okWide P W r b0 t v) (hw : ∀ n ∈ d.weights P t, n ≤ reachBytes)
    (h : DataW.Trod enc P W 0 (fun _ => true) true t v d ps) : ∃ A c l, v = .slice A l.length c ∧ l.length ≤ c ∧ k.C W A l.length l ∧ ok l := by
  obtain ⟨a, len, cap, rfl⟩ := okWide_slice ht hv
  obtain ⟨fuel, hf⟩ := h
  obtain ⟨l, ⟨A, c, he, hl, hC⟩, hok⟩ := hr H enc W fuel _ _ hf hw
  simp only [Value.cells, List.cons.injEq, Value.slice.injEq, and_true] at he
  obtain ⟨rfl, rfl, rfl⟩ := he
  exact ⟨_, _, l, rfl, hl, hC, hok⟩
theorem arg_struct {α : Type} {fs : Array Field} {k : Kd α} {ok : α → Prop} (ht : P.underlying t = some (.struct fs)) (hr : Rd P t k ok) (hv : Value.okWide P W r b0 t v) (hw : ∀ n ∈ d.weights P t, n ≤ reachBytes)
    (h : DataW.Trod enc P W 0 (fun _ => true) true t v d ps) : ∃ cs a, v = .agg cs ∧ k.K W a cs.toList ∧ ok a := by
  obtain ⟨cs, rfl, _⟩ := okWide_struct ht hv
  obtain ⟨fuel, hf⟩ := h
  obtain ⟨a, hK, hok⟩ := hr H enc W fuel _ _ hf hw
  exact ⟨cs, a, rfl, hK, hok⟩
theorem arg_lt (h : DataW.Trod enc P W 0 (fun _ => true) true t v d ps) : ∀ x ∈ ps, x.block < W.heap.size := by
  obtain ⟨m, hm⟩ := h
  exact DataW.trod_lt m _ _ _ hm
end

theorem wf_u8 {x : Int} (h : (Lit.int .u8 x).wf = true) : 0 ≤ x ∧ x < 256 := by
  have h1 : IntKind.u8.min = 0 := rfl
  have h2 : IntKind.u8.max = 255 := rfl
  simp only [Lit.wf, Bool.and_eq_true, decide_eq_true_eq] at h
  omega
theorem wf_u32 {x : Int} (h : (Lit.int .u32 x).wf = true) : 0 ≤ x ∧ x < 4294967296 := by
  have h1 : IntKind.u32.min = 0 := rfl
  have h2 : IntKind.u32.max = 4294967295 := rfl
  simp only [Lit.wf, Bool.and_eq_true, decide_eq_true_eq] at h
  omega
theorem wf_u64 {x : Int} (h : (Lit.int .u64 x).wf = true) : 0 ≤ x ∧ x < 18446744073709551616 := by
  have h1 : IntKind.u64.min = 0 := rfl
  have h2 : IntKind.u64.max = 18446744073709551615 := rfl
  simp only [Lit.wf, Bool.and_eq_true, decide_eq_true_eq] at h
  omega
theorem wf_i64 {x : Int} (h : (Lit.int .i64 x).wf = true) : -9223372036854775808 ≤ x ∧ x < 9223372036854775808 := by
  have h1 : IntKind.i64.min = -9223372036854775808 := rfl
  have h2 : IntKind.i64.max = 9223372036854775807 := rfl
  simp only [Lit.wf, Bool.and_eq_true, decide_eq_true_eq] at h
  omega
theorem rd_bytes : Rd Try.prog 41 (Kd.slice 5 (Kd.int .u8)) (fun l => (∀ x ∈ l, (Lit.int .u8 x).wf = true) ∧ l.length * 1 ≤ 140737488351232) :=
  rd_slice Try.underlying41 (by kernel_rfl) (by kernel_rfl) (rd_int Try.underlying5)

end Go.Proofs.Ytblnclooobggnaa.Rd

namespace Go.Proofs.Ytblnclooobggnaa.Se
open Go.RowKit Go.Proofs.Ytblnclooobggnaa.L Go.Proofs.Ytblnclooobggnaa.N Go.Proofs.Ytblnclooobggnaa.A Go.Proofs.Ytblnclooobggnaa.Mc Go.Proofs.YtblnclooobggnaaW.PrintWords

abbrev tSl : TypeId := 41
/-- what was sealed so far -/
def slN (kh km : List Nat) (L : List (List Nat)) (n : Nat) : List (List Nat) := (List.range n).map (fun j => sealN 1 kh km (j + 1) (L.getD j []))
theorem slN_len (kh km : List Nat) (L : List (List Nat)) (n : Nat) : (slN kh km L n).length = n := by simp [slN]
theorem slN_succ (kh km : List Nat) (L : List (List Nat)) (n : Nat) : slN kh km L (n + 1) = slN kh km L n ++ [sealN 1 kh km (n + 1) (L.getD n [])] := by simp [slN, List.range_succ]
theorem slN_get {kh km : List Nat} {L : List (List Nat)} {n j : Nat} (h : j < n) : (slN kh km L n).getD j [] = sealN 1 kh km (j + 1) (L.getD j []) := by
  unfold slN
  rw [List.getD_eq_getElem?_getD, List.getElem?_map, List.getElem?_range h]
  rfl
/-- rows of bytes that lie in a row of one's own, all newer than B -/
def SN (B : Nat) (v : Value) (M : List (List Nat)) (w : World) : Prop := ∃ ps, kSl.R tSl w B (fun _ => True) v ps ∧ PS w ps M ∧ ∀ j, j < M.length → ∀ ad, (ps.getD j (none, 0, 0)).1 = some ad → B ≤ ad.block ∧ ad.block < w.heap.size ∧ some ad.block ≠ v.ownBlock
theorem SN.nil (B : Nat) (w : World) : SN B (.slice none 0 0) [] w := ⟨[], Kd.R_nil _ _ _ _ _, PS.nil _, fun j hj => absurd hj (by simp)⟩
theorem SN.below {B : Nat} {v : Value} {M : List (List Nat)} {w w1 : World} (h : SN B v M w) (hb : Below w.heap.size w w1) : SN B v M w1 := by
  obtain ⟨ps, h1, h2, h3⟩ := h
  exact ⟨ps, Kd.R_below h1 hb, h2.below hb, fun j hj ad e => ⟨(h3 j hj ad e).1, Nat.lt_of_lt_of_le (h3 j hj ad e).2.1 hb.size, (h3 j hj ad e).2.2⟩⟩
theorem SN.gr {B g q : Nat} {v : Value} {M : List (List Nat)} {w w1 : World} (h : SN B v M w) (hg : GR g q w w1) (h1 : g < B) (h2 : q < B) : SN B v M w1 := by
  obtain ⟨ps, k1, k2, k3⟩ := h
  refine ⟨ps, Kd.R_mono (Kd.R_move (Kd.R_bound k1) (fun k hk => hg.keep k hk.2.2.1 (by have := hk.2.1; omega) (by have := hk.2.1; omega))) (fun _ _ => trivial), ⟨k2.1, fun j hj => ?_⟩, fun j hj ad e => ⟨(k3 j hj ad e).1, Nat.lt_of_lt_of_le (k3 j hj ad e).2.1 hg.size, (k3 j hj ad e).2.2⟩⟩
  obtain ⟨a1, a2, a3, a4⟩ := k2.2 j hj
  exact ⟨a1, hg.C a2 (fun _ ad e => ⟨by have := (k3 j hj ad e).1; omega, by have := (k3 j hj ad e).1; omega⟩), a3, a4⟩
theorem SN.rb {B : Nat} {v : Value} {M : List (List Nat)} {w : World} (h : SN B v M w) : ∃ A c, v = .slice A M.length c ∧ RB w A M := by
  obtain ⟨ps, h1, h2, _⟩ := h
  obtain ⟨A, c, hv, _, hC⟩ := Kd.R_reads h1
  exact ⟨A, c, by rw [hv, h2.1], RB_of_S hC h2⟩
theorem SN.app {B : Nat} {v v1 : Value} {M : List (List Nat)} {w w1 : World} {ps : List (Option Addr × Nat × Nat)} {A : Option Addr} {c : Nat} {l : List Nat} (h2 : PS w ps M) (h3 : ∀ j, j < M.length → ∀ ad, (ps.getD j (none, 0, 0)).1 = some ad → B ≤ ad.block ∧ ad.block < w.heap.size ∧ some ad.block ≠ v.ownBlock)
    (hC : (Kd.int .u8).C w A l.length (nat l)) (h8 : ∀ x ∈ l, x < 256) (hc : l.length ≤ c) (hA : ∀ ad, A = some ad → B ≤ ad.block ∧ ad.block < w.heap.size ∧ some ad.block ≠ v.ownBlock)
    (hR : kSl.R tSl w1 B (fun _ => True) v1 (ps ++ [(A, l.length, c)])) (hg : w.grownBy w1 v.ownBlock) (hat : v1.ownBlock = v.ownBlock ∨ ∃ b, v1.ownBlock = some b ∧ w.heap.size ≤ b) : SN B v1 (M ++ [l]) w1 := by
  have key : ∀ ad : Addr, ad.block < w.heap.size → some ad.block ≠ v.ownBlock → w1.heap[ad.block]? = w.heap[ad.block]? := fun ad h h' => hg.block ad.block h h'
  have far : ∀ ad : Addr, ad.block < w.heap.size → some ad.block ≠ v.ownBlock → some ad.block ≠ v1.ownBlock := fun ad h h' => by
    rcases hat with e | ⟨b, e, hbb⟩
    · rw [e]; exact h'
    · rw [e]; intro e2; injection e2 with e2; omega
  have hps : PS w1 ps M := ⟨h2.1, fun j hj => by
    obtain ⟨a1, a2, a3, a4⟩ := h2.2 j hj
    exact ⟨a1, C_move a2 (fun ad e => key ad (h3 j hj ad e).2.1 (h3 j hj ad e).2.2), a3, a4⟩⟩
  have hC1 : (Kd.int .u8).C w1 A l.length (nat l) := C_move hC (fun ad e => key ad (hA ad e).2.1 (hA ad e).2.2)
  refine ⟨_, hR, hps.snoc hC1 h8 hc, fun j hj ad e => ?_⟩
  have hsz := hg.size
  rw [List.length_append, List.length_singleton] at hj
  by_cases hl : j < M.length
  · have e1 : (ps ++ [(A, l.length, c)]).getD j (none, 0, 0) = ps.getD j (none, 0, 0) := by rw [List.getD_eq_getElem?_getD, List.getElem?_append_left (by rw [h2.1]; exact hl), ← List.getD_eq_getElem?_getD]
    rw [e1] at e
    obtain ⟨b1, b2, b3⟩ := h3 j hl ad e
    exact ⟨b1, by omega, far ad b2 b3⟩
  · have e1 : (ps ++ [(A, l.length, c)]).getD j (none, 0, 0) = (A, l.length, c) := by
      rw [List.getD_eq_getElem?_getD, List.getElem?_append_right (by rw [h2.1]; omega), show j - ps.length = 0 from by rw [h2.1]; omega]
      rfl
    rw [e1] at e
    obtain ⟨b1, b2, b3⟩ := hA ad e
    exact ⟨b1, by omega, far ad b2 b3⟩
set_option maxRecDepth 100000 in
set_option maxHeartbeats 12800000 in
theorem sealback_nat (secret : List Nat) (L : List (List Nat)) (O : List Nat) (A AL AO : Option Addr) (ca cl co : Nat) (w : World) (hA : (Kd.int .u8).C w A secret.length (nat secret)) (hca : secret.length ≤ ca) (ha : ∀ x ∈ secret, x < 256) (hL : RB w AL L) (hO : (Kd.int .u8).C w AO O.length (nat O)) (ho8 : ∀ x ∈ O, x < 256) (hln : L.length ≤ 9223372036854775807) :
    Calls Try.prog 9 #[.slice A secret.length ca, .slice AL L.length cl, .slice AO O.length co] w fun e w' => e = .returned (.bool true) ∧ Below w.heap.size w w' := by
  by_cases hg0 : secret.length = 0
  · have HAl := Lib.hid (alive07_any w)
    have e0 : ((secret.length : Int) == 0) = true := beq_iff_eq.2 (by omega)
    have e0n : (secret.length == 0) = true := beq_iff_eq.2 (by omega)
    clear hA hca ha hL hO ho8 hg0
    go_enter Try.func9, Try.ntmps9
    go_wp2_with fail
    refine HAl.out.mono ?_
    rintro e w1 ⟨rfl, hb⟩
    go_wp2_with fail
    go_ret
    exact ⟨rfl, hb⟩
  have e0 : ((secret.length : Int) == 0) = false := beq_eq_false_iff_ne.2 (by omega)
  have e0n : (secret.length == 0) = false := beq_eq_false_iff_ne.2 (by omega)
  by_cases hg1 : 100 < secret.length
  · have HAl := Lib.hid (alive07_any w)
    have tg_secret : decide ((100 : Int) < (secret.length : Int)) = true := decide_eq_true (by omega)
    clear hA hca ha hL hO ho8 hg0 hg1
    go_enter Try.func9, Try.ntmps9
    go_wp2_with fail
    refine HAl.out.mono ?_
    rintro e w1 ⟨rfl, hb⟩
    go_wp2_with fail
    go_ret
    exact ⟨rfl, hb⟩
  have tg_secret : decide ((100 : Int) < (secret.length : Int)) = false := decide_eq_false (by omega)
  by_cases hg2 : 12 < L.length
  · have HAl := Lib.hid (alive07_any w)
    have tg_L : decide ((12 : Int) < (L.length : Int)) = true := decide_eq_true (by omega)
    clear hA hca ha hL hO ho8 hg0 hg1 hg2
    go_enter Try.func9, Try.ntmps9
    go_wp2_with fail
    refine HAl.out.mono ?_
    rintro e w1 ⟨rfl, hb⟩
    go_wp2_with fail
    go_ret
    exact ⟨rfl, hb⟩
  have tg_L : decide ((12 : Int) < (L.length : Int)) = false := decide_eq_false (by omega)
  have HNw := Lib.hid (fun (side : Nat) W (hb : Below w.heap.size w W) (hs : side = 0 ∨ side = 1) => newseal_any secret A ca side W (Kd.C_below hA hb) hca ha (by omega) (by omega) hs)
  have HHl := Lib.hid (show (hideK secret).length = 16 from drvN_len _ _ _)
  have HH8 := Lib.hid (show ∀ x ∈ hideK secret, x < 256 from drvN_lt _ _ _)
  have HM8 := Lib.hid (show ∀ x ∈ markK secret, x < 256 from drvN_lt _ _ _)
  have HL := Lib.hid hL
  have HO := Lib.hid hO
  have HO8 := Lib.hid ho8
  have HLn := Lib.hid (show L.length ≤ 12 from by omega)
  have hmo := (B_open hO).1
  generalize hideK secret = KH at *
  generalize markK secret = KM at *
  have HSs := Lib.hid (fun n => slN_succ KH KM L n)
  have HSg := Lib.hid (fun n j (h : j < n) => slN_get (kh := KH) (km := KM) (L := L) h)
  have HSl := Lib.hid (fun n => slN_len KH KM L n)
  have HS0 := Lib.hid (show slN KH KM L 0 = [] from rfl)
  have z1 : (L.length : Int) ≤ 12 := by omega
  have z2 : (O.length : Int) ≤ 9223372036854775807 := by omega
  clear hA hca ha hL hO ho8 hg0 hg1 hg2 hln hmo
  go_enter Try.func9, Try.ntmps9
  go_wp2_with fail
  refine (HNw.out 1 w (Below.refl _ _) (.inr rfl)).mono ?_
  rintro e w2 ⟨g, p, q, rfl, hg, hp, hqq, hgq, hse, hb⟩
  have HS1 := Lib.hid hse
  have HO1 := Lib.hid (show w.heap.size ≤ g ∧ w.heap.size ≤ p ∧ w.heap.size ≤ q from ⟨hg, hp, hqq⟩)
  have HB2 := Lib.hid hb
  have HNe := Lib.hid hgq
  have HOr := Lib.hid (HS1.out.ord)
  clear hg hp hqq hgq hse hb
  go_wp2_with fail
  refine (HNw.out 0 w2 HB2.out (.inl rfl)).mono ?_
  rintro e w4 ⟨g2, p2, q2, rfl, hg, hp, hqq, hgq, hse, hb⟩
  have HT4 := Lib.hid hse
  have HS4 := Lib.hid (HS1.out.keep hb)
  have HB4 := Lib.hid (HB2.out.trans (hb.mono HB2.out.size))
  have HNe2 := Lib.hid hgq
  have HO2 := Lib.hid (show w2.heap.size ≤ g2 ∧ w2.heap.size ≤ p2 ∧ w2.heap.size ≤ q2 from ⟨hg, hp, hqq⟩)
  have HW2 := Lib.hid HB2.out.size
  have HOs := Lib.hid (HS4.out.ord)
  have HOt := Lib.hid (HT4.out.ord)
  obtain ⟨N4, hN4⟩ : ∃ n, w4.heap.size = n := ⟨_, rfl⟩
  have HN4 := Lib.hid hN4
  have HD := Lib.hid (show (g < N4 ∧ q < N4) ∧ (g2 < N4 ∧ q2 < N4) ∧ (p < N4 ∧ p2 < N4) ∧ w.heap.size ≤ N4 from by
    have h1 := HOs.out; have h2 := HOt.out; have h3 := HB4.out.size
    rw [hN4] at h1 h2 h3
    omega)
  clear hg hp hqq hgq hse hb HNw HS1 HB2 hN4
  go_wp2_with fail
  go_loopg [11, 12] (L.length + 1) (fun gk v11 v12 w' => ∃ i tn : Nat, v12 = .int .i64 (i : Int) ∧ Hid (i ≤ L.length ∧ L.length < gk + i) ∧ Hid (tn ≤ 9000 * i) ∧ Hid (SE g p q 1 KH KM (i + 1) tn w') ∧ Hid (SE g2 p2 q2 0 KH KM 1 0 w') ∧ Hid (SN N4 v11 (slN KH KM L i) w') ∧ Hid (∀ j, j < i → (L.getD j []).length ≤ 512) ∧ Hid (Below w.heap.size w w') ∧ Hid (N4 ≤ w'.heap.size))
  case atStart => exact ⟨0, 0, rfl, Lib.hid ⟨by omega, by omega⟩, Lib.hid (by omega), HS4, HT4, Lib.hid (by rw [HS0.out]; exact SN.nil _ _), Lib.hid (fun j hj => absurd hj (by omega)), HB4, Lib.hid (by rw [HN4.out]; exact Nat.le_refl _)⟩
  case round =>
    obtain ⟨i, tn, rfl, HJ, HTn, HS, HT, HSN, HLe, HB, HNs⟩ := hrel
    clear HS4 HT4 HB4
    obtain ⟨AM, cM, hvM, hrbM⟩ := HSN.out.rb
    rw [HSl.out] at hvM
    subst hvM
    cases gk with
    | zero => have := HJ.out; omega
    | succ k =>
      by_cases hlt : i < L.length
      · have HJ' := Lib.hid (show i < L.length ∧ L.length < (k + 1) + i from ⟨hlt, HJ.out.2⟩)
        obtain ⟨bl, off, Aj, cj, rfl, hbw, hcw, hCw, h8, hcap⟩ := HL.out i hlt
        have hss := HSs.out i
        have hLi : ∀ j, j < i + 1 → j < i ∨ j = i := fun j h => by omega
        obtain ⟨x, hx⟩ : ∃ x, L.getD i [] = x := ⟨_, rfl⟩
        rw [hx] at hcw hCw h8 hcap hss
        have HBw := Lib.hid hbw
        have HCw := Lib.hid hCw
        have HX8 := Lib.hid h8
        have HSx := Lib.hid hss
        have HXe := Lib.hid hx
        have hc := (HB.out.cell (p := ⟨bl, off + i, none⟩) hbw).trans hcw
        have HCell := Lib.hid hcw
        have HAb := Lib.hid (show 0 < x.length → ∀ ad, Aj = some ad → ad.block < w.heap.size from fun h0 ad e => by
          obtain ⟨b, off, e2, hb, _⟩ := B_at HCw.out h0
          rw [e2] at e
          injection e with e
          subst e
          exact hb)
        have y0 : (i : Int) < (L.length : Int) := by omega
        have y1 : (0 : Int) ≤ (i : Int) := by omega
        have hxm := (B_open HCw.out).1
        by_cases h5 : 512 < x.length
        · have t4 : decide ((512 : Int) < (x.length : Int)) = true := decide_eq_true (by omega)
          have t5 : (512 : Int) < (x.length : Int) := by omega
          have HQ := Lib.hid (alive07_any wr)
          clear h5 hbw hcw hCw h8 hcap hss hx hlt HJ hLi hrbM hxm
          go_wp2_with fail
          refine HQ.out.mono ?_
          rintro e w5 ⟨rfl, hb5⟩
          have HB5 := Lib.hid (HB.out.trans (hb5.mono HB.out.size))
          clear hb5
          go_wp2_with fail
          go_ret
          exact ⟨rfl, HB5.out⟩
        have t4 : decide ((512 : Int) < (x.length : Int)) = false := decide_eq_false (by omega)
        have t5 : (x.length : Int) ≤ 512 := by omega
        have H5 := Lib.hid (show x.length ≤ 512 from by omega)
        have HQ := Lib.hid (seal_any g p q 1 (i + 1) tn KH KM x Aj cj wr HS.out (.inr rfl) (by omega) (by have := HLn.out; omega) (by have := HTn.out; have := HLn.out; omega) HHl.out HH8.out HM8.out HNe.out (Kd.C_below HCw.out HB.out) (fun h0 ad e => by have := HAb.out h0 ad e; have := HO1.out; omega) H5.out HX8.out)
        clear h5 hbw hcw hCw h8 hcap hss hx hlt HJ hLi hrbM hxm
        go_wp2_with fail
        refine HQ.out.mono ?_
        rintro e w6 ⟨v6, rfl, hro, hse, hgr, _⟩
        obtain ⟨A6, c6, rfl, hc6, hC6, hf6⟩ := hro
        have hl : (sealN 1 KH KM (i + 1) x).length = x.length + 24 := sealN_len _ _ _ _ _
        have HXl := Lib.hid hl
        have HS8 := Lib.hid (sealN_lt HH8.out 1 KM (i + 1) HX8.out)
        have HSe := Lib.hid hse
        have HT6 := Lib.hid (HT.out.gr hgr (by have := HO2.out; have := HOr.out; omega) (by have := HO2.out; have := HOr.out; omega) (by have := HO2.out; have := HOr.out; omega))
        have HB6 := Lib.hid (hgr.low HB.out HO1.out.1 HO1.out.2.2 HB.out.size)
        have HSN6 := Lib.hid (HSN.out.gr hgr HD.out.1.1 HD.out.1.2)
        have HNs6 := Lib.hid (Nat.le_trans HNs.out hgr.size)
        have HC6 := Lib.hid hC6
        have Hc6 := Lib.hid hc6
        have HF6 := Lib.hid (show ∀ ad, A6 = some ad → N4 ≤ ad.block ∧ ad.block < w6.heap.size ∧ some ad.block ≠ (Value.slice AM i cM).ownBlock from fun ad e => by
          obtain ⟨b, off, e2, hb, _⟩ := B_at HC6.out (by rw [HXl.out]; omega)
          have h1 := hf6 ad e
          rw [e2] at e
          injection e with e
          subst e
          obtain ⟨ps, hr, _, _⟩ := HSN.out
          refine ⟨by have := HNs.out; show N4 ≤ b; have h1' : wr.heap.size ≤ b := h1; omega, hb, fun e3 => ?_⟩
          have := Kd.R_lt hr b e3.symm
          have h1' : wr.heap.size ≤ b := h1
          omega)
        have hnx := next_any g p (i + 1 + 1) w6 HSe.out.c1 HSe.out.cn (by have := HLn.out; have := HJ'.out; omega)
        obtain ⟨i2, hi2⟩ : ∃ n, i + 1 + 1 = n := ⟨_, rfl⟩
        rw [hi2] at hnx
        have HNx := Lib.hid hnx
        obtain ⟨n6, hn6⟩ : ∃ n, (sealN 1 KH KM (i + 1) x).length = n := ⟨_, rfl⟩
        have HN6 := Lib.hid hn6
        rw [hn6] at hl Hc6 ⊢
        have r1 : (i : Int) + 2 = (i2 : Int) := by omega
        have r2 : (x.length : Int) + 24 = (n6 : Int) := by omega
        have hc' : w6.cell? ⟨bl, off + i, none⟩ = some (.slice Aj x.length cj) := (HB6.out.cell (p := ⟨bl, off + i, none⟩) HBw.out).trans HCell.out
        have hcN := cnt_small (a := 0) (len := x.length) (by omega) (by have := H5.out; omega)
        have HCn := Lib.hid hcN
        clear hc hse hgr hc6 hC6 hf6 hnx hn6 HQ HT HB HS hcN hi2 hl
        go_wp2_with fail
        refine HNx.out.mono ?_
        rintro e w7 ⟨rfl, hw⟩
        rw [hw]
        clear hw w7 HNx
        obtain ⟨ps, hps1, hps2, hps3⟩ := HSN6.out
        have HP1 := Lib.hid hps1
        have HP2 := Lib.hid hps2
        have HP3 := Lib.hid hps3
        have HPl := Lib.hid (show ps.length = i from by rw [hps2.1, HSl.out])
        clear hps1 hps2 hps3
        go_wp2_with (at_builtin; refine Kd.R_append kSl (w0 := w6) N4 rfl (.tmp 101) (.tmp 103) 72 tSl (.slice none 0 0) 24 rfl Try.underlying72 info_sl rfl (by decide) (by decide) (.slice AM i cM) ps (A6, n6, c6) [.slice A6 n6 c6] (fun _ => True) (fun _ => False) rfl rfl rfl (fun _ h => h.elim) (fun _ _ => trivial) HP1.out (Below.refl _ _) HNs6.out (by have := HPl.out; have := HJ'.out; have := HLn.out; omega) ?_; intro v8 w8 hr8 hb8 hg8 hat8; (have HR8 := Lib.hid hr8); (have HG8 := Lib.hid hg8); (have HAt8 := Lib.hid hat8); clear hr8 hb8 hg8 hat8)
        have hsn := SN.app (l := sealN 1 KH KM (i + 1) x) HP2.out HP3.out (by rw [HN6.out]; have := HC6.out; rwa [HN6.out] at this) HS8.out (by rw [HN6.out]; exact Hc6.out) HF6.out (by rw [HN6.out]; exact HR8.out) HG8.out HAt8.out
        rw [← HSx.out] at hsn
        have HSN8 := Lib.hid hsn
        have HS8b := Lib.hid (HSe.out.growR HG8.out (fun k hk => by have h1 := Kd.R_base HP1.out k hk; have := HD.out; omega))
        have HT8 := Lib.hid (HT6.out.growR HG8.out (fun k hk => by have h1 := Kd.R_base HP1.out k hk; have := HD.out; omega))
        have HB8 := Lib.hid (HB6.out.grown HG8.out HB6.out.size (fun k hk => by have h1 := Kd.R_base HP1.out k hk; have := HD.out; omega))
        have HNs8 := Lib.hid (Nat.le_trans HNs6.out HG8.out.size)
        have HLe8 := Lib.hid (show ∀ j, j < i + 1 → (L.getD j []).length ≤ 512 from fun j hj => by
          by_cases h : j < i
          · exact HLe.out j h
          · obtain rfl : j = i := by omega
            rw [HXe.out]
            exact H5.out)
        clear hsn HR8 HG8 HAt8 HC6 Hc6 HP1 HP2 HP3 HSN6 HSe HT6 HB6 HNs6 hc' r1 r2
        go_roundg k
        case measure => have := HJ'.out; omega
        case rel => exact ⟨i + 1, tn + cntN 0 x.length, by go_num, Lib.hid (by have := HJ'.out; omega), Lib.hid (by have := HTn.out; have := HCn.out; omega), HS8b, HT8, HSN8, HLe8, HB8, HNs8⟩
      · obtain rfl : i = L.length := by have := HJ.out; omega
        clear hlt HJ HTn HS hrbM
        have HT0 := Lib.hid HT.out
        go_wp2_with fail
        go_loopg [15] 22 (fun gk v15 w' => ∃ i tn : Nat, v15 = .int .i64 (i : Int) ∧ Hid (i ≤ 20 ∧ i ≤ O.length ∧ 20 < gk + i) ∧ Hid (tn ≤ 9000 * i) ∧ Hid (SE g2 p2 q2 0 KH KM 1 tn w') ∧ Hid (SN N4 (.slice AM L.length cM) (slN KH KM L L.length) w') ∧ Hid (Below w.heap.size w w') ∧ Hid (N4 ≤ w'.heap.size))
        case atStart => exact ⟨0, 0, rfl, Lib.hid ⟨by omega, by omega, by omega⟩, Lib.hid (by omega), HT0, HSN, HB, HNs⟩
        case round =>
          obtain ⟨i, tn, rfl, HJ, HTn, HT, HSN, HB, HNs⟩ := hrel
          clear HT0
          cases gk with
          | zero => have := HJ.out; omega
          | succ k2 =>
            have y1 : (0 : Int) ≤ (i : Int) := by omega
            by_cases a1 : i < O.length
            · have s1 : (i : Int) < (O.length : Int) := by omega
              have s2 : decide ((i : Int) < (O.length : Int)) = true := decide_eq_true s1
              have s3 : decide (i < O.length) = true := decide_eq_true a1
              by_cases a2 : i < 20
              · have s4 : (i : Int) < 20 := by omega
                have s5 : decide ((i : Int) < 20) = true := decide_eq_true s4
                by_cases a3 : 0 < L.length
                · have s6 : (0 : Int) < (L.length : Int) := by omega
                  have s7 : decide ((0 : Int) < (L.length : Int)) = true := decide_eq_true s6
                  have s8 : decide (0 < L.length) = true := decide_eq_true a3
                  have HJ' := Lib.hid (show i < 20 ∧ i < O.length ∧ 20 < (k2 + 1) + i from ⟨a2, a1, HJ.out.2.2⟩)
                  obtain ⟨bo, oo, rfl, hbo, hco⟩ := B_at (Kd.C_below HO.out HB.out) (by omega)
                  have p0 := hco i a1
                  have hy8 := getD_lt a1 HO8.out
                  obtain ⟨y, hy⟩ : ∃ y, O.getD i 0 = y := ⟨_, rfl⟩
                  rw [hy] at p0 hy8
                  obtain ⟨k, hk⟩ : ∃ k, y % L.length = k := ⟨_, rfl⟩
                  have hkl : k < L.length := by rw [← hk]; exact Nat.mod_lt _ a3
                  have e1 : (y : Int) % (L.length : Int) = (k : Int) := by rw [← hk]; omega
                  obtain ⟨bl, ol, Al, cl2, rfl, hbl, hcl, hCl, h8, _⟩ := HL.out k hkl
                  obtain ⟨A', c', hv', hrb⟩ := HSN.out.rb
                  injection hv' with i1 i2 i3
                  subst i1
                  obtain ⟨bs, os, Ak, ck, e2, hbs, hcs, hCs, _, hcaps⟩ := hrb k (by rw [HSl.out]; exact hkl)
                  have hxl := HLe.out k hkl
                  rw [HSg.out _ k hkl] at hcs hCs hcaps
                  obtain ⟨x, hx⟩ : ∃ x, L.getD k [] = x := ⟨_, rfl⟩
                  rw [hx] at hcl hCl h8 hcs hCs hcaps hxl
                  have hsl : (sealN 1 KH KM (k + 1) x).length = x.length + 24 := sealN_len _ _ _ _ _
                  rw [hsl] at hcs hCs hcaps
                  have hq := open_sealed g2 p2 q2 0 1 (k + 1) 1 tn KH KM x Ak ck wr HT.out (by have := HTn.out; omega) HHl.out HH8.out HM8.out h8 hxl HNe2.out rfl (by have := HLn.out; omega) hCs hcaps
                  obtain ⟨k1, hk1⟩ : ∃ n, k + 1 = n := ⟨_, rfl⟩
                  obtain ⟨n6, hn6⟩ : ∃ n, x.length + 24 = n := ⟨_, rfl⟩
                  rw [hk1, hn6] at hq
                  rw [hn6] at hcs
                  have HQ := Lib.hid hq
                  have HCl := Lib.hid hCl
                  have HCell := Lib.hid hcl
                  have HBl := Lib.hid hbl
                  have r1 : (k : Int) + 1 = (k1 : Int) := by omega
                  have r6 : IntKind.u64.wrap ((k : Int) + 1) = (k1 : Int) := by rw [r1]; exact wraps_u64 _ (by omega) (by have := HLn.out; omega)
                  have r7 : IntKind.u64.wrap (k : Int) = (k : Int) := wraps_u64 _ (by omega) (by have := HLn.out; omega)
                  have r8 : ((k1 : Int) != (k1 : Int)) = false := by rw [bne_self_eq_false]
                  have r2 : (y : Int) < 256 := by omega
                  have r3 : (0 : Int) ≤ (y : Int) := by omega
                  have r4 : (k : Int) < (L.length : Int) := by omega
                  have r5 : (0 : Int) ≤ (k : Int) := by omega
                  have hcn := cnt_small (a := 0) (len := x.length) (by omega) (by omega)
                  have HCn := Lib.hid hcn
                  have HXm := Lib.hid (B_open HCl.out).1
                  have HEq := Lib.hid e2
                  clear a1 a2 a3 HJ hbo hco hy8 hy hk hkl hbl hcl hCl h8 hrb i2 i3 e2 hbs hCs hcaps hxl hx hsl hq hk1 hn6 hcn
                  have hcs2 : ∀ bb oo2, AM = some ⟨bb, oo2, none⟩ → wr.cell? ⟨bb, oo2 + k, none⟩ = some (.slice Ak n6 ck) := fun bb oo2 e => by
                    rw [HEq.out] at e
                    injection e with e
                    injection e with e1 e2
                    subst e1
                    subst e2
                    exact hcs
                  obtain ⟨bm, om, hAM⟩ : ∃ bb oo2, AM = some ⟨bb, oo2, none⟩ := ⟨_, _, HEq.out⟩
                  have hcm := hcs2 bm om hAM
                  subst hAM
                  clear hcs hcs2 HEq
                  go_wp2_with fail
                  refine HQ.out.mono ?_
                  rintro e w6 ⟨v6, rfl, hro, hse, hgr⟩
                  obtain ⟨A6, c6, rfl, hc6, hC6, _⟩ := hro
                  have HT6 := Lib.hid hse
                  have HSN6 := Lib.hid (HSN.out.gr hgr HD.out.2.1.1 HD.out.2.1.2)
                  have HB6 := Lib.hid (hgr.low HB.out (Nat.le_trans HW2.out HO2.out.1) (Nat.le_trans HW2.out HO2.out.2.2) HB.out.size)
                  have HNs6 := Lib.hid (Nat.le_trans HNs.out hgr.size)
                  have HC6 := Lib.hid hC6
                  clear hse hgr hc6 hC6 HQ HT HSN HB HNs hcm p0
                  have q0 := gw (w := w6) (Nat.lt_of_lt_of_le HBl.out HB6.out.size) ((HB6.out.cell (p := ⟨bl, ol + k, none⟩) HBl.out).trans HCell.out)
                  have q1 : ∀ m : Q.GW w6.drew w6.heap.size none, (convert 41 9 (.slice A6 x.length c6)).run Try.prog m.w = .ok (.string (strOfNums (nat x))) m.w := fun m => strS rfl (Kd.C_below HC6.out ((stay0 w6).trans (Q.GW.below (W := w6.drew) m)))
                  have q2 : ∀ m : Q.GW w6.drew w6.heap.size none, (convert 41 9 (.slice Al x.length cl2)).run Try.prog m.w = .ok (.string (strOfNums (nat x))) m.w := fun m => strS rfl (Kd.C_below (Kd.C_below HCl.out HB6.out) ((stay0 w6).trans (Q.GW.below (W := w6.drew) m)))
                  go_wp2_with fail
                  refine Q.wp_region_segs none [([0, 1, 2, 3, 4, 5, 6, 7, 8, 9, 10, 11, 12, 13, 14, 15, 16, 17, 18], none)] (by kernel_rfl) (by kernel_rfl) (by kernel_rfl) (by kernel_rfl) ?_
                  dsimp only [Q.wpSegs, Q.picks, Q.pick]
                  repeat (go_big_quiet_step (fail))
                  refine wpQuiet_nil ?_
                  clear q0 q1 q2
                  refine NoPanic.normal ?_
                  refine exit_at fun w7 hw7 => ?_
                  have hb7 : Below w6.heap.size w6 w7 := by rw [hw7]; exact stay0 w6
                  have HT7 := Lib.hid (HT6.out.keep hb7)
                  have HSN7 := Lib.hid (HSN6.out.below hb7)
                  have HB7 := Lib.hid (HB6.out.trans (hb7.mono HB6.out.size))
                  have HNs7 := Lib.hid (Nat.le_trans HNs6.out hb7.size)
                  clear hw7 hb7 HT6 HSN6 HB6 HNs6
                  go_wp2_with fail
                  go_roundg k2
                  case measure => have := HJ'.out; omega
                  case rel => exact ⟨i + 1, tn + cntN 0 x.length, by go_num, Lib.hid (by have := HJ'.out; omega), Lib.hid (by have := HTn.out; have := HCn.out; omega), HT7, HSN7, HB7, HNs7⟩
                · have s6 : ¬ (0 : Int) < (L.length : Int) := by omega
                  have s7 : decide ((0 : Int) < (L.length : Int)) = false := decide_eq_false s6
                  have s8 : decide (0 < L.length) = false := decide_eq_false a3
                  have HQ := Lib.hid (alive07_any wr)
                  go_wp2_with fail
                  refine HQ.out.mono ?_
                  rintro e w5 ⟨rfl, hb5⟩
                  have HB5 := Lib.hid (HB.out.trans (hb5.mono HB.out.size))
                  clear hb5
                  go_wp2_with fail
                  go_ret
                  exact ⟨rfl, HB5.out⟩
              · have s4 : ¬ (i : Int) < 20 := by omega
                have s5 : decide ((i : Int) < 20) = false := decide_eq_false s4
                have HQ := Lib.hid (alive07_any wr)
                go_wp2_with fail
                refine HQ.out.mono ?_
                rintro e w5 ⟨rfl, hb5⟩
                have HB5 := Lib.hid (HB.out.trans (hb5.mono HB.out.size))
                clear hb5
                go_wp2_with fail
                go_ret
                exact ⟨rfl, HB5.out⟩
            · have s1 : ¬ (i : Int) < (O.length : Int) := by omega
              have s2 : decide ((i : Int) < (O.length : Int)) = false := decide_eq_false s1
              have s3 : decide (i < O.length) = false := decide_eq_false a1
              have HQ := Lib.hid (alive07_any wr)
              go_wp2_with fail
              refine HQ.out.mono ?_
              rintro e w5 ⟨rfl, hb5⟩
              have HB5 := Lib.hid (HB.out.trans (hb5.mono HB.out.size))
              clear hb5
              go_wp2_with fail
              go_ret
              exact ⟨rfl, HB5.out⟩

theorem sealback_walk (secret : List Int) (L : List (List Int)) (O : List Int) (A AL AO : Option Addr) (ca cl co : Nat) (w : World) (hA : (Kd.int .u8).C w A secret.length secret) (hca : secret.length ≤ ca) (ha : ∀ x ∈ secret, 0 ≤ x ∧ x < 256) (hL : (Kd.slice 5 (Kd.int .u8)).C w AL L.length L) (hL8 : ∀ x ∈ L, ∀ y ∈ x, 0 ≤ y ∧ y < 256) (hO : (Kd.int .u8).C w AO O.length O) (ho8 : ∀ x ∈ O, 0 ≤ x ∧ x < 256) :
    Calls Try.prog 9 #[.slice A secret.length ca, .slice AL L.length cl, .slice AO O.length co] w fun e w' => e = .returned (.bool true) ∧ Below w.heap.size w w' := by
  obtain ⟨m1, e1, k1, l1, _⟩ := C_nat (m := 256) hA ha
  obtain ⟨m3, e3, k3, l3, _⟩ := C_nat (m := 256) hO ho8
  obtain ⟨M, hM, hrb, hm, _⟩ := RB_of_C hL hL8
  rw [← e1, ← e3, ← hM]
  exact sealback_nat m1 M m3 A AL AO ca cl co w k1 (by omega) l1 hrb k3 l3 (by omega)
end Go.Proofs.Ytblnclooobggnaa.Se

namespace Go.Proofs.Ytblnclooobggnaa.Rd
open Go.RowKit Go.Proofs.Ytblnclooobggnaa.L Go.Proofs.YtblnclooobggnaaW.PrintWords
theorem rd_rows : Rd Try.prog 72 (Kd.slice 41 (Kd.slice 5 (Kd.int .u8))) (fun l => (∀ x ∈ l, (∀ y ∈ x, (Lit.int .u8 y).wf = true) ∧ x.length * 1 ≤ 140737488351232) ∧ l.length * 24 ≤ 140737488351232) :=
  rd_slice Try.underlying72 (by kernel_rfl) (by kernel_rfl) rd_bytes
end Go.Proofs.Ytblnclooobggnaa.Rd
