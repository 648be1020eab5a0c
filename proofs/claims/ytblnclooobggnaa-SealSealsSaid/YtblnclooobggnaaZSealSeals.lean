/-
  Parts of one proof, joined: How the data of a law's arguments read: a kind for each type (whole numbers, bools, texts, slices, structs), each shown once. | seal: SealSeals.
-/
import Derived.Test.YtblnclooobggnaaZB0
import Derived.Test.YtblnclooobggnaaZB1
import Derived.Test.YtblnclooobggnaaZB2
import Derived.Test.YtblnclooobggnaaZB3
import Derived.Test.YtblnclooobggnaaZB4
import Derived.Test.YtblnclooobggnaaZB5
import Derived.Test.YtblnclooobggnaaZD0
import Derived.Test.YtblnclooobggnaaZD1
import Derived.Test.YtblnclooobggnaaZD2
import Derived.ProofKit
import Derived.OpenShut
import Derived.ShutString
import Derived.ChangeOld
import Derived.Below
import Derived.SizedLaws
import Derived.Deep.Slices
import Derived.Deep.Fields
import Derived.ChangeSame

namespace Go.Proofs.Ytblnclooobggnaa.Rd
open Go.RowKit Go.ChangeShapes Go.WideShapes Go.Deep Go.Proofs.Ytblnclooobggnaa.L Go.Proofs.YtblnclooobggnaaW.PrintWords

/-- Whatever data of type t read: there is a value of the kind, its cells those, and it is fine. -/
def Rd (P : Program) (t : TypeId) {α : Type} (d : Kd α) (ok : α → Prop) : Prop :=
  ∀ (H : Type) (enc : TypeId × Value → H) (W : World) (fuel : Nat) (cs : List Value) (x : DataW H × List MemPlace),
    DataW.trod enc P W 0 (fun _ => true) true fuel t cs = some x → (∀ n ∈ x.1.weights P t, n ≤ reachBytes) → ∃ a : α, d.K W a cs ∧ ok a

theorem mem_all {H : Type} {P : Program} {e : TypeId} {n : Nat} : ∀ {l : List (DataW H)} {d : DataW H}, d ∈ l → n ∈ d.weights P e → n ∈ DataW.weightsAll P e l
  | [], _, h, _ => by cases h
  | d0 :: l, d, h, hn => by
    rw [DataW.weightsAll]
    rcases List.mem_cons.1 h with rfl | h
    · exact List.mem_append_left _ hn
    · exact List.mem_append_right _ (mem_all h hn)

theorem exists_list {α : Type} {p : Nat → α → Prop} : ∀ (n : Nat), (∀ i, i < n → ∃ a, p i a) → ∃ l : List α, l.length = n ∧ ∀ i a, l[i]? = some a → p i a
  | 0, _ => ⟨[], rfl, fun i a h => by simp at h⟩
  | n + 1, h => by
    obtain ⟨l, hl, hp⟩ := exists_list n (fun i hi => h i (by omega))
    obtain ⟨a, ha⟩ := h n (by omega)
    refine ⟨l ++ [a], by simp [hl], fun i b hb => ?_⟩
    by_cases hi : i < l.length
    · rw [List.getElem?_append_left hi] at hb
      exact hp i b hb
    · have : i = n := by
        have := (List.getElem?_eq_some_iff.1 hb).1
        simp at this
        omega
      subst this
      rw [List.getElem?_append_right (by omega), hl] at hb
      simp at hb
      subst hb
      exact ha

theorem rd_int {P : Program} {t : TypeId} {k : IntKind} (ht : P.underlying t = some (.int k)) : Rd P t (Kd.int k) (fun n => (Lit.int k n).wf = true) := by
  intro H enc W fuel cs x h _
  cases fuel with
  | zero => cases h
  | succ fuel =>
    unfold DataW.trod at h
    rw [ht] at h
    split at h <;> simp_all
    exact ⟨_, rfl, h.1.2⟩
theorem rd_bool {P : Program} {t : TypeId} (ht : P.underlying t = some .bool) : Rd P t Kd.bool (fun _ => True) := by
  intro H enc W fuel cs x h _
  cases fuel with
  | zero => cases h
  | succ fuel =>
    have hb : ∃ b, cs = [Value.bool b] := by
      unfold DataW.trod at h
      rw [ht] at h
      split at h
      · exact ⟨_, rfl⟩
      all_goals simp_all
    obtain ⟨b, rfl⟩ := hb
    exact ⟨b, rfl, trivial⟩
theorem rd_string {P : Program} {t : TypeId} (ht : P.underlying t = some .string) : Rd P t Kd.string (fun s => s.size ≤ reachBytes) := by
  intro H enc W fuel cs x h hw
  cases fuel with
  | zero => cases h
  | succ fuel =>
    unfold DataW.trod at h
    rw [ht] at h
    split at h <;> simp_all
    obtain ⟨h1, rfl⟩ := h
    exact ⟨_, rfl, by simpa [DataW.weights] using hw⟩

theorem rd_slice {P : Program} {t e : TypeId} {α : Type} {d : Kd α} {ok : α → Prop} {B : Nat} (ht : P.underlying t = some (.slice e)) (hc : P.cellsOf e = d.sz) (hB : P.bytesOf e = B) (he : Rd P e d ok) :
    Rd P t (Kd.slice e d) (fun l => (∀ x ∈ l, ok x) ∧ l.length * B ≤ 140737488351232) := by
  intro H enc W fuel cs x h hw
  rcases open_slice ht h with ⟨rfl, _⟩ | ⟨a, len, cap, m, n, D, Pl, rfl, _, hlc, hcm, hm, rfl, hi⟩
  · exact ⟨[], ⟨none, 0, rfl, Nat.le_refl _, Kd.C_nil d W⟩, by simp, by simp⟩
  · simp only [if_true] at hm
    have hwt : ∀ i, i < len → ∀ n ∈ (D i).weights P e, n ≤ reachBytes := by
      intro i hi n hn
      refine hw n ?_
      simp only [DataW.weights, ht]
      refine List.mem_cons_of_mem _ (List.mem_append_left _ (mem_all ?_ hn))
      exact List.mem_map.2 ⟨i, List.mem_range.2 hi, rfl⟩
    have hlen : len * B ≤ 140737488351232 := by
      have h1 := hw ((((List.range len).map D).length + ((List.range (m - len)).map fun j => D (len + j)).length) * P.bytesOf e) (by simp [DataW.weights, ht])
      rw [hB] at h1
      simp only [List.length_map, List.length_range, reachBytes] at h1
      exact Nat.le_trans (Nat.mul_le_mul_right _ (by omega)) h1
    obtain ⟨l, hl, hp⟩ := exists_list (p := fun i y => ok y ∧ ∃ c, c.length = d.sz ∧ d.K W y c ∧ ∀ j u, c[j]? = some u → W.cell? (a.add (i * d.sz + j)) = some u) len (by
      intro i hil
      obtain ⟨cs', h1, h2⟩ := hi i (by omega)
      obtain ⟨y, hy, hok⟩ := he H enc W n cs' _ h2 (hwt i hil)
      obtain ⟨_, hcl, hat⟩ := World.cells?_some h1
      refine ⟨y, hok, cs', d.K_len hy, hy, fun j u hu => ?_⟩
      have hj : j < P.cellsOf e := by
        have := (List.getElem?_eq_some_iff.1 hu).1
        rw [d.K_len hy] at this
        omega
      rw [← Go.Deep.add_add, ← hc, hat j hj, hu])
    subst hl
    refine ⟨l, ⟨some a, cap, rfl, hlc, ⟨rfl, by simp only [maxLen] at hcm; omega, fun _ => ⟨a, rfl, fun j p hj => (hp j p hj).2⟩⟩⟩, fun y hy => ?_, hlen⟩
    obtain ⟨j, hj⟩ := List.getElem?_of_mem hy
    exact (hp j y hj).1

/-- Some fields of a struct, from a cell on. -/
def RdF (P : Program) (fs : List Field) (off : Nat) {α : Type} (d : Kd α) (ok : α → Prop) : Prop :=
  ∀ (H : Type) (enc : TypeId × Value → H) (W : World) (n : Nat) (cs : List Value) (ys : List (DataW H × List MemPlace)),
    ys.length = fs.length → (∀ (j : Nat) (f : Field), fs[j]? = some f → DataW.trod enc P W 0 (fun _ => true) true n f.type ((cs.drop f.offset).take (P.cellsOf f.type)) = ys[j]?) →
    (∀ m ∈ DataW.weightsEach P (fs.map (fun f : Field => f.type)) (ys.map (·.1)), m ≤ reachBytes) → ∃ a : α, d.K W a ((cs.drop off).take d.sz) ∧ ok a
theorem rdf_one {P : Program} {f : Field} {α : Type} {d : Kd α} {ok : α → Prop} (hc : P.cellsOf f.type = d.sz) (h : Rd P f.type d ok) : RdF P [f] f.offset d ok := by
  intro H enc W n cs ys hl hy hw
  match ys, hl with
  | [y], _ =>
    have h1 := hy 0 f rfl
    rw [hc] at h1
    exact h H enc W n _ y h1 (fun m hm => hw m (by simp [DataW.weightsEach, hm]))
theorem rdf_cons {P : Program} {f : Field} {fs : List Field} {α β : Type} {d : Kd α} {d2 : Kd β} {ok : α → Prop} {ok2 : β → Prop} {off : Nat} (hc : P.cellsOf f.type = d.sz) (ho : f.offset + d.sz = off) (h : Rd P f.type d ok) (h2 : RdF P fs off d2 ok2) :
    RdF P (f :: fs) f.offset (Kd.pair d d2) (fun x => ok x.1 ∧ ok2 x.2) := by
  intro H enc W n cs ys hl hy hw
  match ys, hl with
  | y :: ys, hl =>
    have h1 := hy 0 f rfl
    rw [hc] at h1
    obtain ⟨a, ha, hoka⟩ := h H enc W n _ y h1 (fun m hm => hw m (by simp [DataW.weightsEach, hm]))
    obtain ⟨b, hb, hokb⟩ := h2 H enc W n cs ys (by simpa using hl) (fun j g hj => hy (j + 1) g hj) (fun m hm => hw m (by simp only [List.map_cons, DataW.weightsEach]; exact List.mem_append_right _ hm))
    refine ⟨(a, b), ⟨_, _, ?_, ha, hb⟩, hoka, hokb⟩
    subst ho
    show (cs.drop f.offset).take (d.sz + d2.sz) = _
    rw [List.take_add, List.drop_drop]
theorem rd_struct {P : Program} {t : TypeId} {fs : Array Field} {α : Type} {d : Kd α} {ok : α → Prop} (ht : P.underlying t = some (.struct fs)) (hc : P.cellsOf t = d.sz) (h : RdF P fs.toList 0 d ok) : Rd P t d ok := by
  intro H enc W fuel cs x hx hw
  obtain ⟨ys, n', _, rfl, hlen, hyl, hf⟩ := DataW.trod_struct ht hx
  obtain ⟨a, ha, hok⟩ := h H enc W n' cs ys (by simpa using hyl) (fun j f hj => hf j f (by simpa using hj)) (fun m hm => hw m (by simpa [DataW.weights, ht] using hm))
  refine ⟨a, ?_, hok⟩
  rwa [List.drop_zero, List.take_of_length_le (by omega)] at ha

/-! ### arguments -/
section
variable {H : Type} {enc : TypeId × Value → H} {P : Program} {W : World} {r : Reach} {b0 : Nat} {t : TypeId} {v : Value} {d : DataW H} {ps : List MemPlace}
theorem wt_of {ts : List TypeId} {ds : List (DataW H)} (h : (DataW.weightsEach P ts ds).all (· ≤ reachBytes) = true) (j : Nat) (ht : ts[j]? = some t) (hd : ds[j]? = some d) : ∀ n ∈ d.weights P t, n ≤ reachBytes := by
  intro n hn
  have := List.all_eq_true.1 h _ (DataW.weights_mem_each ht hd n hn)
  simpa using this
theorem arg_slice {α : Type} {e : TypeId} {k : Kd α} {ok : List α → Prop} (ht : P.underlying t = some (.slice e)) (hr : Rd P t (Kd.slice e k) ok) (hv : Value.okWide P W r b0 t v) (hw : ∀ n ∈ d.weights P t, n ≤ reachBytes)
    (h : DataW.Trod enc P W 0 (fun _ => true) true t v d ps) : ∃ A c l, v = .slice A l.length c ∧ l.length ≤ c ∧ k.C W A l.length l ∧ ok l := by
  obtain ⟨a, len, cap, rfl⟩ := okWide_slice ht hv
  obtain ⟨fuel, hf⟩ := h
  obtain ⟨l, ⟨A, c, he, hl, hC⟩, hok⟩ := hr H enc W fuel _ _ hf hw
  simp only [Value.cells, List.cons.injEq, Value.slice.injEq, and_true] at he
  obtain ⟨rfl, rfl, rfl⟩ := he
  exact ⟨_, _, l, rfl, hl, hC, hok⟩
theorem arg_struct {α : Type} {fs : Array Field} {k : Kd α} {ok : α → Prop} (ht : P.underlying t = some (.struct fs)) (hr : Rd P t k ok) (hv : Value.okWide P W r b0 t v) (hw : ∀ n ∈ d.weights P t, n ≤ reachBytes)
    (h : DataW.Trod enc P W 0 (fun _ => true) true t v d ps) : ∃ cs a, v = .agg cs ∧ k.K W a cs.toList ∧ ok a := by
  obtain ⟨cs, rfl, _⟩ := okWide_struct ht hv
  obtain ⟨fuel, hf⟩ := h
  obtain ⟨a, hK, hok⟩ := hr H enc W fuel _ _ hf hw
  exact ⟨cs, a, rfl, hK, hok⟩
theorem arg_lt (h : DataW.Trod enc P W 0 (fun _ => true) true t v d ps) : ∀ x ∈ ps, x.block < W.heap.size := by
  obtain ⟨m, hm⟩ := h
  exact DataW.trod_lt m _ _ _ hm
end

theorem wf_u8 {x : Int} (h : (Lit.int .u8 x).wf = true) : 0 ≤ x ∧ x < 256 := by
  have h1 : IntKind.u8.min = 0 := rfl
  have h2 : IntKind.u8.max = 255 := rfl
  simp only [Lit.wf, Bool.and_eq_true, decide_eq_true_eq] at h
  omega
theorem wf_u32 {x : Int} (h : (Lit.int .u32 x).wf = true) : 0 ≤ x ∧ x < 4294967296 := by
  have h1 : IntKind.u32.min = 0 := rfl
  have h2 : IntKind.u32.max = 4294967295 := rfl
  simp only [Lit.wf, Bool.and_eq_true, decide_eq_true_eq] at h
  omega
theorem wf_u64 {x : Int} (h : (Lit.int .u64 x).wf = true) : 0 ≤ x ∧ x < 18446744073709551616 := by
  have h1 : IntKind.u64.min = 0 := rfl
  have h2 : IntKind.u64.max = 18446744073709551615 := rfl
  simp only [Lit.wf, Bool.and_eq_true, decide_eq_true_eq] at h
  omega
theorem wf_i64 {x : Int} (h : (Lit.int .i64 x).wf = true) : -9223372036854775808 ≤ x ∧ x < 9223372036854775808 := by
  have h1 : IntKind.i64.min = -9223372036854775808 := rfl
  have h2 : IntKind.i64.max = 9223372036854775807 := rfl
  simp only [Lit.wf, Bool.and_eq_true, decide_eq_true_eq] at h
  omega
theorem rd_bytes : Rd Try.prog 41 (Kd.slice 5 (Kd.int .u8)) (fun l => (∀ x ∈ l, (Lit.int .u8 x).wf = true) ∧ l.length * 1 ≤ 140737488351232) :=
  rd_slice Try.underlying41 (by kernel_rfl) (by kernel_rfl) (rd_int Try.underlying5)

end Go.Proofs.Ytblnclooobggnaa.Rd

namespace Go.Proofs.Ytblnclooobggnaa.Se
open Go.RowKit Go.Proofs.Ytblnclooobggnaa.L Go.Proofs.Ytblnclooobggnaa.N Go.Proofs.Ytblnclooobggnaa.A Go.Proofs.Ytblnclooobggnaa.Mc Go.Proofs.YtblnclooobggnaaW.PrintWords

set_option maxRecDepth 100000 in
set_option maxHeartbeats 25600000 in
theorem sealseals_nat (secret plain : List Nat) (A B : Option Addr) (ca cb next : Nat) (side : Int) (w : World) (hA : (Kd.int .u8).C w A secret.length (nat secret)) (hca : secret.length ≤ ca) (ha : ∀ x ∈ secret, x < 256) (hB : (Kd.int .u8).C w B plain.length (nat plain)) (hb8 : ∀ x ∈ plain, x < 256) (hx : next < 18446744073709551616) :
    Calls Try.prog 11 #[.slice A secret.length ca, .int .i64 side, .int .u64 (next : Int), .slice B plain.length cb] w fun e w' => e = .returned (.bool true) ∧ Below w.heap.size w w' := by
  have hmB := (B_open hB).1
  by_cases hg0 : 100 < secret.length
  · have HAl := Lib.hid (alive07_any w)
    have tg_secret : decide ((100 : Int) < (secret.length : Int)) = true := decide_eq_true (by omega)
    clear hA hca ha hB hb8 hx hg0
    go_enter Try.func11, Try.ntmps11
    go_wp2_with fail
    refine HAl.out.mono ?_
    rintro e w1 ⟨rfl, hb⟩
    go_wp2_with fail
    go_ret
    exact ⟨rfl, hb⟩
  have tg_secret : decide ((100 : Int) < (secret.length : Int)) = false := decide_eq_false (by omega)
  by_cases hg1 : 60 < plain.length ∧ plain.length ≤ 512
  · have HAl := Lib.hid (alive07_any w)
    have tm1 : decide ((60 : Int) < (plain.length : Int)) = true := decide_eq_true (by omega)
    have tm2 : decide ((plain.length : Int) ≤ 512) = true := decide_eq_true (by omega)
    clear hA hca ha hB hb8 hx hg0 hg1
    go_enter Try.func11, Try.ntmps11
    go_wp2_with fail
    refine HAl.out.mono ?_
    rintro e w1 ⟨rfl, hb⟩
    go_wp2_with fail
    go_ret
    exact ⟨rfl, hb⟩
  by_cases hg2 : 600 < plain.length
  · have HAl := Lib.hid (alive07_any w)
    have tm1 : decide ((60 : Int) < (plain.length : Int)) = true := decide_eq_true (by omega)
    have tm2 : decide ((plain.length : Int) ≤ 512) = false := decide_eq_false (by omega)
    have tm3 : decide ((600 : Int) < (plain.length : Int)) = true := decide_eq_true (by omega)
    clear hA hca ha hB hb8 hx hg0 hg1 hg2
    go_enter Try.func11, Try.ntmps11
    go_wp2_with fail
    refine HAl.out.mono ?_
    rintro e w1 ⟨rfl, hb⟩
    go_wp2_with fail
    go_ret
    exact ⟨rfl, hb⟩
  have HNw := Lib.hid (fun (s : Nat) W (hb : Below w.heap.size w W) (hs : s = 0 ∨ s = 1) (h0 : 0 < secret.length) => newseal_any secret A ca s W (Kd.C_below hA hb) hca ha (by omega) h0 hs)
  have HA := Lib.hid hA
  have HA8 := Lib.hid ha
  have HB := Lib.hid hB
  have HB8 := Lib.hid hb8
  have HBk := Lib.hid (show 0 < plain.length → ∀ ad, B = some ad → ad.block < w.heap.size from fun h0 ad e => by
    obtain ⟨b, off, e2, hb, _⟩ := B_at hB h0
    rw [e2] at e
    injection e with e
    subst e
    exact hb)
  have HL := Lib.hid (show secret.length ≤ 100 from by omega)
  have HX := Lib.hid hx
  have zl : (plain.length : Int) ≤ 600 := by omega
  have zx : (next : Int) < 18446744073709551616 := by omega
  have HG := Lib.hid hg1
  clear hA hca ha hB hb8 hx hg0 hg1 hg2 hmB
  by_cases hlong : 512 < plain.length
  · have tm1 : decide ((60 : Int) < (plain.length : Int)) = true := decide_eq_true (by omega)
    have tm2 : decide ((plain.length : Int) ≤ 512) = false := decide_eq_false (by omega)
    have tm3 : decide ((600 : Int) < (plain.length : Int)) = false := decide_eq_false (by omega)
    have tm4 : decide ((512 : Int) < (plain.length : Int)) = true := decide_eq_true (by omega)
    have HLg := Lib.hid hlong
    clear hlong
    by_cases hsd : side ≠ 0 ∧ side ≠ 1
    · have t1 : (side != 0) = true := by rw [bne_iff_ne]; exact hsd.1
      have t2 : (side != 1) = true := by rw [bne_iff_ne]; exact hsd.2
      have HN := Lib.hid (newseal_side A secret.length ca side w hsd.1 hsd.2)
      by_cases hem : secret.length = 0
      · have t3 : ((secret.length : Int) == 0) = true := by rw [beq_iff_eq]; omega
        have t4 : (secret.length == 0) = true := by rw [beq_iff_eq]; exact hem
        have t5 : decide ((100 : Int) < (secret.length : Int)) = false := decide_eq_false (by omega)
        clear hsd hem
        go_enter Try.func11, Try.ntmps11
        go_wp2_with fail
        refine (HN.out).mono ?_
        rintro e w1 ⟨rfl, hb1⟩
        have HB1 := Lib.hid (show Below w.heap.size w w1 from by rw [hb1]; exact Below.refl _ _)
        clear hb1
        go_wp2_with fail
        refine (alive07_any w1).mono ?_
        rintro e w3 ⟨rfl, hb3⟩
        have HB3 := Lib.hid (HB1.out.trans (hb3.mono HB1.out.size))
        clear hb3
        go_wp2_with fail
        go_ret
        exact ⟨rfl, HB3.out⟩
      · have t3 : ((secret.length : Int) == 0) = false := by rw [beq_eq_false_iff_ne]; omega
        have t4 : (secret.length == 0) = false := by rw [beq_eq_false_iff_ne]; exact hem
        have t5 : decide ((100 : Int) < (secret.length : Int)) = false := decide_eq_false (by have := HL.out; omega)
        clear hsd hem
        go_enter Try.func11, Try.ntmps11
        go_wp2_with fail
        refine (HN.out).mono ?_
        rintro e w1 ⟨rfl, hb1⟩
        have HB1 := Lib.hid (show Below w.heap.size w w1 from by rw [hb1]; exact Below.refl _ _)
        clear hb1
        go_wp2_with fail
        refine (alive07_any w1).mono ?_
        rintro e w3 ⟨rfl, hb3⟩
        have HB3 := Lib.hid (HB1.out.trans (hb3.mono HB1.out.size))
        clear hb3
        go_wp2_with fail
        go_ret
        exact ⟨rfl, HB3.out⟩
    by_cases hem : secret.length = 0
    · have HN := Lib.hid (show Calls _ _ #[.slice A secret.length ca, .int .i64 side] w _ from by rw [hem]; exact newseal_empty A ca side w (by omega))
      have t3 : ((secret.length : Int) == 0) = true := by rw [beq_iff_eq]; omega
      have t4 : (secret.length == 0) = true := by rw [beq_iff_eq]; exact hem
      have t5 : decide ((100 : Int) < (secret.length : Int)) = false := decide_eq_false (by omega)
      clear hsd hem
      go_enter Try.func11, Try.ntmps11
      go_wp2_with fail
      refine (HN.out).mono ?_
      rintro e w1 ⟨rfl, hb1⟩
      have HB1 := Lib.hid hb1
      clear hb1
      go_wp2_with fail
      refine (alive07_any w1).mono ?_
      rintro e w3 ⟨rfl, hb3⟩
      have HB3 := Lib.hid (HB1.out.trans (hb3.mono HB1.out.size))
      clear hb3
      go_wp2_with fail
      go_ret
      exact ⟨rfl, HB3.out⟩
    have t3 : ((secret.length : Int) == 0) = false := by rw [beq_eq_false_iff_ne]; omega
    have t4 : (secret.length == 0) = false := by rw [beq_eq_false_iff_ne]; exact hem
    have t5 : decide ((100 : Int) < (secret.length : Int)) = false := decide_eq_false (by have := HL.out; omega)
    have h0 : 0 < secret.length := by omega
    obtain ⟨s, rfl⟩ : ∃ s : Nat, side = (s : Int) := ⟨side.toNat, by omega⟩
    have hs : s = 0 ∨ s = 1 := by omega
    have HSd := Lib.hid hs
    have HN := Lib.hid (HNw.out s w (Below.refl _ _) hs h0)
    have HHl := Lib.hid (show (hideK secret).length = 16 from drvN_len _ _ _)
    have HH8 := Lib.hid (show ∀ x ∈ hideK secret, x < 256 from drvN_lt _ _ _)
    have HM8 := Lib.hid (show ∀ x ∈ markK secret, x < 256 from drvN_lt _ _ _)
    have HRf := Lib.hid (fun n W (hb : Below w.heap.size w W) (hn : n ≤ 9223372036854775807) (hp : plain.length ≤ 512) => rseal_any secret plain A B ca cb s n W hs (Kd.C_below HA.out hb) HA8.out (by have := HL.out; omega) (Kd.C_below HB.out hb) HB8.out hp hn)
    generalize hideK secret = KH at *
    generalize markK secret = KM at *
    rcases hs with rfl | rfl
    · have t1 : ((0 : Int) != 0) = false := by decide
      clear hsd hem h0
      go_enter Try.func11, Try.ntmps11
      go_wp2_with fail
      refine HN.out.mono ?_
      rintro e w2 ⟨g, p, q, rfl, hg, hp, hqq, hgq, hse, hb⟩
      have HS2 := Lib.hid hse
      have HO1 := Lib.hid (show w.heap.size ≤ g ∧ w.heap.size ≤ p ∧ w.heap.size ≤ q from ⟨hg, hp, hqq⟩)
      have HB2 := Lib.hid hb
      have HNe := Lib.hid hgq
      clear hg hp hqq hgq hse hb HNw HN
      by_cases hlo : next = 0
      · obtain ⟨nx, hnx⟩ : ∃ n, n = next := ⟨_, rfl⟩
        have HSk := Lib.hid (skip_low g p 1 next w2 HS2.out.c1 HS2.out.cn ⟨by decide, by decide⟩ (by omega))
        have u1 : decide ((1 : Int) ≤ (next : Int)) = false := decide_eq_false (by omega)
        have u2 : decide (1 ≤ next) = false := decide_eq_false (by omega)
        have u3 : ((1 : Int) == (next : Int)) = false := by rw [beq_eq_false_iff_ne]; omega
        have u4 : ¬ (1 : Int) ≤ (next : Int) := by omega
        clear hlo hnx nx
        go_wp2_with fail
        refine HSk.out.mono ?_
        rintro e w3 ⟨rfl, hw⟩
        rw [hw]
        clear hw w3 HSk
        obtain ⟨w3, rfl⟩ : ∃ W : World, W = w2 := ⟨_, rfl⟩
        have HS3 := Lib.hid HS2.out
        have HB3 := Lib.hid HB2.out
        clear HS2 HB2
        have hnx := next_any g p 1 w3 HS3.out.c1 HS3.out.cn (by decide)
        rw [show ((1 : Nat) : Int) = 1 from rfl] at hnx
        have HNx := Lib.hid hnx
        clear hnx
        go_wp2_with fail
        refine HNx.out.mono ?_
        rintro e w4 ⟨rfl, hw⟩
        rw [hw]
        clear hw w4 HNx
        have HSe := Lib.hid (seal_long g p plain.length cb B w3 HS3.out.c1 HLg.out (by omega))
        go_wp2_with fail
        refine HSe.out.mono ?_
        rintro e w4 ⟨rfl, hw⟩
        rw [hw]
        clear hw w4 HSe
        go_wp2_with fail
        refine (alive07_any w3).mono ?_
        rintro e w5 ⟨rfl, hb5⟩
        have HS5 := Lib.hid (HS3.out.keep hb5)
        have HB5 := Lib.hid (HB3.out.trans (hb5.mono HB3.out.size))
        clear hb5
        have hnx := next_any g p 1 w5 HS5.out.c1 HS5.out.cn (by decide)
        rw [show ((1 : Nat) : Int) = 1 from rfl] at hnx
        have HNx := Lib.hid hnx
        clear hnx
        go_wp2_with fail
        refine HNx.out.mono ?_
        rintro e w4 ⟨rfl, hw⟩
        rw [hw]
        clear hw w4 HNx
        go_wp2_with fail
        go_ret
        exact ⟨rfl, HB5.out⟩
      by_cases hhi : 9223372036854775807 < next
      · have HSk := Lib.hid (skip_high g p 1 next w2 HS2.out.c1 HS2.out.cn ⟨by decide, by decide⟩ hhi)
        have u1 : decide ((1 : Int) ≤ (next : Int)) = true := decide_eq_true (by omega)
        have u2 : decide (1 ≤ next) = true := decide_eq_true (by omega)
        have u5 : decide ((next : Int) ≤ 9223372036854775807) = false := decide_eq_false (by omega)
        have u6 : decide (next ≤ 9223372036854775807) = false := decide_eq_false (by omega)
        have u3 : ((1 : Int) == (next : Int)) = false := by rw [beq_eq_false_iff_ne]; omega
        clear hlo hhi
        go_wp2_with fail
        refine HSk.out.mono ?_
        rintro e w3 ⟨rfl, hw⟩
        rw [hw]
        clear hw w3 HSk
        obtain ⟨w3, rfl⟩ : ∃ W : World, W = w2 := ⟨_, rfl⟩
        have HS3 := Lib.hid HS2.out
        have HB3 := Lib.hid HB2.out
        clear HS2 HB2
        have hnx := next_any g p 1 w3 HS3.out.c1 HS3.out.cn (by decide)
        rw [show ((1 : Nat) : Int) = 1 from rfl] at hnx
        have HNx := Lib.hid hnx
        clear hnx
        go_wp2_with fail
        refine HNx.out.mono ?_
        rintro e w4 ⟨rfl, hw⟩
        rw [hw]
        clear hw w4 HNx
        have HSe := Lib.hid (seal_long g p plain.length cb B w3 HS3.out.c1 HLg.out (by omega))
        go_wp2_with fail
        refine HSe.out.mono ?_
        rintro e w4 ⟨rfl, hw⟩
        rw [hw]
        clear hw w4 HSe
        go_wp2_with fail
        refine (alive07_any w3).mono ?_
        rintro e w5 ⟨rfl, hb5⟩
        have HS5 := Lib.hid (HS3.out.keep hb5)
        have HB5 := Lib.hid (HB3.out.trans (hb5.mono HB3.out.size))
        clear hb5
        have hnx := next_any g p 1 w5 HS5.out.c1 HS5.out.cn (by decide)
        rw [show ((1 : Nat) : Int) = 1 from rfl] at hnx
        have HNx := Lib.hid hnx
        clear hnx
        go_wp2_with fail
        refine HNx.out.mono ?_
        rintro e w4 ⟨rfl, hw⟩
        rw [hw]
        clear hw w4 HNx
        go_wp2_with fail
        go_ret
        exact ⟨rfl, HB5.out⟩
      have HSk := Lib.hid (skip_ok g p 1 next w2 HS2.out.c1 HS2.out.cn (HS2.out.fz 18) ⟨by decide, by decide⟩ (by omega))
      have u1 : decide ((1 : Int) ≤ (next : Int)) = true := decide_eq_true (by omega)
      have u2 : decide (1 ≤ next) = true := decide_eq_true (by omega)
      have u5 : decide ((next : Int) ≤ 9223372036854775807) = true := decide_eq_true (by omega)
      have u6 : decide (next ≤ 9223372036854775807) = true := decide_eq_true (by omega)
      have u7 : (next : Int) ≤ 9223372036854775807 := by omega
      have u8 : (1 : Int) ≤ (next : Int) := by omega
      have HXn := Lib.hid (show 1 ≤ next ∧ next ≤ 9223372036854775807 from by omega)
      clear hlo hhi
      go_wp2_with fail
      refine HSk.out.mono ?_
      rintro e w3 ⟨rfl, hw⟩
      have hs3 : SE g p q 0 KH KM next 0 w3 := by rw [hw]; exact SE.num HS2.out HNe.out.1 HNe.out.2 next
      have HS3 := Lib.hid hs3
      have HB3 := Lib.hid (show Below w.heap.size w w3 from by rw [hw]; exact HB2.out.setCell HO1.out.1 _)
      clear hw hs3 HSk HS2 HB2
      have hnx := next_any g p next w3 HS3.out.c1 HS3.out.cn (by exact HXn.out.2)
      have HNx := Lib.hid hnx
      clear hnx
      go_wp2_with fail
      refine HNx.out.mono ?_
      rintro e w4 ⟨rfl, hw⟩
      rw [hw]
      clear hw w4 HNx
      have HSe := Lib.hid (seal_long g p plain.length cb B w3 HS3.out.c1 HLg.out (by omega))
      go_wp2_with fail
      refine HSe.out.mono ?_
      rintro e w4 ⟨rfl, hw⟩
      rw [hw]
      clear hw w4 HSe
      go_wp2_with fail
      refine (alive07_any w3).mono ?_
      rintro e w5 ⟨rfl, hb5⟩
      have HS5 := Lib.hid (HS3.out.keep hb5)
      have HB5 := Lib.hid (HB3.out.trans (hb5.mono HB3.out.size))
      clear hb5
      have hnx := next_any g p next w5 HS5.out.c1 HS5.out.cn (by exact HXn.out.2)
      have HNx := Lib.hid hnx
      clear hnx
      go_wp2_with fail
      refine HNx.out.mono ?_
      rintro e w4 ⟨rfl, hw⟩
      rw [hw]
      clear hw w4 HNx
      go_wp2_with fail
      go_ret
      exact ⟨rfl, HB5.out⟩
    · have t1 : ((1 : Int) != 0) = true := by decide
      have t2 : ((1 : Int) != 1) = false := by decide
      clear hsd hem h0
      go_enter Try.func11, Try.ntmps11
      go_wp2_with fail
      refine HN.out.mono ?_
      rintro e w2 ⟨g, p, q, rfl, hg, hp, hqq, hgq, hse, hb⟩
      have HS2 := Lib.hid hse
      have HO1 := Lib.hid (show w.heap.size ≤ g ∧ w.heap.size ≤ p ∧ w.heap.size ≤ q from ⟨hg, hp, hqq⟩)
      have HB2 := Lib.hid hb
      have HNe := Lib.hid hgq
      clear hg hp hqq hgq hse hb HNw HN
      by_cases hlo : next = 0
      · obtain ⟨nx, hnx⟩ : ∃ n, n = next := ⟨_, rfl⟩
        have HSk := Lib.hid (skip_low g p 1 next w2 HS2.out.c1 HS2.out.cn ⟨by decide, by decide⟩ (by omega))
        have u1 : decide ((1 : Int) ≤ (next : Int)) = false := decide_eq_false (by omega)
        have u2 : decide (1 ≤ next) = false := decide_eq_false (by omega)
        have u3 : ((1 : Int) == (next : Int)) = false := by rw [beq_eq_false_iff_ne]; omega
        have u4 : ¬ (1 : Int) ≤ (next : Int) := by omega
        clear hlo hnx nx
        go_wp2_with fail
        refine HSk.out.mono ?_
        rintro e w3 ⟨rfl, hw⟩
        rw [hw]
        clear hw w3 HSk
        obtain ⟨w3, rfl⟩ : ∃ W : World, W = w2 := ⟨_, rfl⟩
        have HS3 := Lib.hid HS2.out
        have HB3 := Lib.hid HB2.out
        clear HS2 HB2
        have hnx := next_any g p 1 w3 HS3.out.c1 HS3.out.cn (by decide)
        rw [show ((1 : Nat) : Int) = 1 from rfl] at hnx
        have HNx := Lib.hid hnx
        clear hnx
        go_wp2_with fail
        refine HNx.out.mono ?_
        rintro e w4 ⟨rfl, hw⟩
        rw [hw]
        clear hw w4 HNx
        have HSe := Lib.hid (seal_long g p plain.length cb B w3 HS3.out.c1 HLg.out (by omega))
        go_wp2_with fail
        refine HSe.out.mono ?_
        rintro e w4 ⟨rfl, hw⟩
        rw [hw]
        clear hw w4 HSe
        go_wp2_with fail
        refine (alive07_any w3).mono ?_
        rintro e w5 ⟨rfl, hb5⟩
        have HS5 := Lib.hid (HS3.out.keep hb5)
        have HB5 := Lib.hid (HB3.out.trans (hb5.mono HB3.out.size))
        clear hb5
        have hnx := next_any g p 1 w5 HS5.out.c1 HS5.out.cn (by decide)
        rw [show ((1 : Nat) : Int) = 1 from rfl] at hnx
        have HNx := Lib.hid hnx
        clear hnx
        go_wp2_with fail
        refine HNx.out.mono ?_
        rintro e w4 ⟨rfl, hw⟩
        rw [hw]
        clear hw w4 HNx
        go_wp2_with fail
        go_ret
        exact ⟨rfl, HB5.out⟩
      by_cases hhi : 9223372036854775807 < next
      · have HSk := Lib.hid (skip_high g p 1 next w2 HS2.out.c1 HS2.out.cn ⟨by decide, by decide⟩ hhi)
        have u1 : decide ((1 : Int) ≤ (next : Int)) = true := decide_eq_true (by omega)
        have u2 : decide (1 ≤ next) = true := decide_eq_true (by omega)
        have u5 : decide ((next : Int) ≤ 9223372036854775807) = false := decide_eq_false (by omega)
        have u6 : decide (next ≤ 9223372036854775807) = false := decide_eq_false (by omega)
        have u3 : ((1 : Int) == (next : Int)) = false := by rw [beq_eq_false_iff_ne]; omega
        clear hlo hhi
        go_wp2_with fail
        refine HSk.out.mono ?_
        rintro e w3 ⟨rfl, hw⟩
        rw [hw]
        clear hw w3 HSk
        obtain ⟨w3, rfl⟩ : ∃ W : World, W = w2 := ⟨_, rfl⟩
        have HS3 := Lib.hid HS2.out
        have HB3 := Lib.hid HB2.out
        clear HS2 HB2
        have hnx := next_any g p 1 w3 HS3.out.c1 HS3.out.cn (by decide)
        rw [show ((1 : Nat) : Int) = 1 from rfl] at hnx
        have HNx := Lib.hid hnx
        clear hnx
        go_wp2_with fail
        refine HNx.out.mono ?_
        rintro e w4 ⟨rfl, hw⟩
        rw [hw]
        clear hw w4 HNx
        have HSe := Lib.hid (seal_long g p plain.length cb B w3 HS3.out.c1 HLg.out (by omega))
        go_wp2_with fail
        refine HSe.out.mono ?_
        rintro e w4 ⟨rfl, hw⟩
        rw [hw]
        clear hw w4 HSe
        go_wp2_with fail
        refine (alive07_any w3).mono ?_
        rintro e w5 ⟨rfl, hb5⟩
        have HS5 := Lib.hid (HS3.out.keep hb5)
        have HB5 := Lib.hid (HB3.out.trans (hb5.mono HB3.out.size))
        clear hb5
        have hnx := next_any g p 1 w5 HS5.out.c1 HS5.out.cn (by decide)
        rw [show ((1 : Nat) : Int) = 1 from rfl] at hnx
        have HNx := Lib.hid hnx
        clear hnx
        go_wp2_with fail
        refine HNx.out.mono ?_
        rintro e w4 ⟨rfl, hw⟩
        rw [hw]
        clear hw w4 HNx
        go_wp2_with fail
        go_ret
        exact ⟨rfl, HB5.out⟩
      have HSk := Lib.hid (skip_ok g p 1 next w2 HS2.out.c1 HS2.out.cn (HS2.out.fz 18) ⟨by decide, by decide⟩ (by omega))
      have u1 : decide ((1 : Int) ≤ (next : Int)) = true := decide_eq_true (by omega)
      have u2 : decide (1 ≤ next) = true := decide_eq_true (by omega)
      have u5 : decide ((next : Int) ≤ 9223372036854775807) = true := decide_eq_true (by omega)
      have u6 : decide (next ≤ 9223372036854775807) = true := decide_eq_true (by omega)
      have u7 : (next : Int) ≤ 9223372036854775807 := by omega
      have u8 : (1 : Int) ≤ (next : Int) := by omega
      have HXn := Lib.hid (show 1 ≤ next ∧ next ≤ 9223372036854775807 from by omega)
      clear hlo hhi
      go_wp2_with fail
      refine HSk.out.mono ?_
      rintro e w3 ⟨rfl, hw⟩
      have hs3 : SE g p q 1 KH KM next 0 w3 := by rw [hw]; exact SE.num HS2.out HNe.out.1 HNe.out.2 next
      have HS3 := Lib.hid hs3
      have HB3 := Lib.hid (show Below w.heap.size w w3 from by rw [hw]; exact HB2.out.setCell HO1.out.1 _)
      clear hw hs3 HSk HS2 HB2
      have hnx := next_any g p next w3 HS3.out.c1 HS3.out.cn (by exact HXn.out.2)
      have HNx := Lib.hid hnx
      clear hnx
      go_wp2_with fail
      refine HNx.out.mono ?_
      rintro e w4 ⟨rfl, hw⟩
      rw [hw]
      clear hw w4 HNx
      have HSe := Lib.hid (seal_long g p plain.length cb B w3 HS3.out.c1 HLg.out (by omega))
      go_wp2_with fail
      refine HSe.out.mono ?_
      rintro e w4 ⟨rfl, hw⟩
      rw [hw]
      clear hw w4 HSe
      go_wp2_with fail
      refine (alive07_any w3).mono ?_
      rintro e w5 ⟨rfl, hb5⟩
      have HS5 := Lib.hid (HS3.out.keep hb5)
      have HB5 := Lib.hid (HB3.out.trans (hb5.mono HB3.out.size))
      clear hb5
      have hnx := next_any g p next w5 HS5.out.c1 HS5.out.cn (by exact HXn.out.2)
      have HNx := Lib.hid hnx
      clear hnx
      go_wp2_with fail
      refine HNx.out.mono ?_
      rintro e w4 ⟨rfl, hw⟩
      rw [hw]
      clear hw w4 HNx
      go_wp2_with fail
      go_ret
      exact ⟨rfl, HB5.out⟩
  · have hsm : plain.length ≤ 60 := by have := HG.out; omega
    have tm1 : decide ((60 : Int) < (plain.length : Int)) = false := decide_eq_false (by omega)
    have tm3 : decide ((600 : Int) < (plain.length : Int)) = false := decide_eq_false (by omega)
    have tm4 : decide ((512 : Int) < (plain.length : Int)) = false := decide_eq_false (by omega)
    have z1 : (plain.length : Int) ≤ 512 := by omega
    have HSm := Lib.hid hsm
    clear hlong hsm
    by_cases hsd : side ≠ 0 ∧ side ≠ 1
    · have t1 : (side != 0) = true := by rw [bne_iff_ne]; exact hsd.1
      have t2 : (side != 1) = true := by rw [bne_iff_ne]; exact hsd.2
      have HN := Lib.hid (newseal_side A secret.length ca side w hsd.1 hsd.2)
      by_cases hem : secret.length = 0
      · have t3 : ((secret.length : Int) == 0) = true := by rw [beq_iff_eq]; omega
        have t4 : (secret.length == 0) = true := by rw [beq_iff_eq]; exact hem
        have t5 : decide ((100 : Int) < (secret.length : Int)) = false := decide_eq_false (by omega)
        clear hsd hem
        go_enter Try.func11, Try.ntmps11
        go_wp2_with fail
        refine (HN.out).mono ?_
        rintro e w1 ⟨rfl, hb1⟩
        have HB1 := Lib.hid (show Below w.heap.size w w1 from by rw [hb1]; exact Below.refl _ _)
        clear hb1
        go_wp2_with fail
        refine (alive07_any w1).mono ?_
        rintro e w3 ⟨rfl, hb3⟩
        have HB3 := Lib.hid (HB1.out.trans (hb3.mono HB1.out.size))
        clear hb3
        go_wp2_with fail
        go_ret
        exact ⟨rfl, HB3.out⟩
      · have t3 : ((secret.length : Int) == 0) = false := by rw [beq_eq_false_iff_ne]; omega
        have t4 : (secret.length == 0) = false := by rw [beq_eq_false_iff_ne]; exact hem
        have t5 : decide ((100 : Int) < (secret.length : Int)) = false := decide_eq_false (by have := HL.out; omega)
        clear hsd hem
        go_enter Try.func11, Try.ntmps11
        go_wp2_with fail
        refine (HN.out).mono ?_
        rintro e w1 ⟨rfl, hb1⟩
        have HB1 := Lib.hid (show Below w.heap.size w w1 from by rw [hb1]; exact Below.refl _ _)
        clear hb1
        go_wp2_with fail
        refine (alive07_any w1).mono ?_
        rintro e w3 ⟨rfl, hb3⟩
        have HB3 := Lib.hid (HB1.out.trans (hb3.mono HB1.out.size))
        clear hb3
        go_wp2_with fail
        go_ret
        exact ⟨rfl, HB3.out⟩
    by_cases hem : secret.length = 0
    · have HN := Lib.hid (show Calls _ _ #[.slice A secret.length ca, .int .i64 side] w _ from by rw [hem]; exact newseal_empty A ca side w (by omega))
      have t3 : ((secret.length : Int) == 0) = true := by rw [beq_iff_eq]; omega
      have t4 : (secret.length == 0) = true := by rw [beq_iff_eq]; exact hem
      have t5 : decide ((100 : Int) < (secret.length : Int)) = false := decide_eq_false (by omega)
      clear hsd hem
      go_enter Try.func11, Try.ntmps11
      go_wp2_with fail
      refine (HN.out).mono ?_
      rintro e w1 ⟨rfl, hb1⟩
      have HB1 := Lib.hid hb1
      clear hb1
      go_wp2_with fail
      refine (alive07_any w1).mono ?_
      rintro e w3 ⟨rfl, hb3⟩
      have HB3 := Lib.hid (HB1.out.trans (hb3.mono HB1.out.size))
      clear hb3
      go_wp2_with fail
      go_ret
      exact ⟨rfl, HB3.out⟩
    have t3 : ((secret.length : Int) == 0) = false := by rw [beq_eq_false_iff_ne]; omega
    have t4 : (secret.length == 0) = false := by rw [beq_eq_false_iff_ne]; exact hem
    have t5 : decide ((100 : Int) < (secret.length : Int)) = false := decide_eq_false (by have := HL.out; omega)
    have h0 : 0 < secret.length := by omega
    obtain ⟨s, rfl⟩ : ∃ s : Nat, side = (s : Int) := ⟨side.toNat, by omega⟩
    have hs : s = 0 ∨ s = 1 := by omega
    have HSd := Lib.hid hs
    have HN := Lib.hid (HNw.out s w (Below.refl _ _) hs h0)
    have HHl := Lib.hid (show (hideK secret).length = 16 from drvN_len _ _ _)
    have HH8 := Lib.hid (show ∀ x ∈ hideK secret, x < 256 from drvN_lt _ _ _)
    have HM8 := Lib.hid (show ∀ x ∈ markK secret, x < 256 from drvN_lt _ _ _)
    have HRf := Lib.hid (fun n W (hb : Below w.heap.size w W) (hn : n ≤ 9223372036854775807) (hp : plain.length ≤ 512) => rseal_any secret plain A B ca cb s n W hs (Kd.C_below HA.out hb) HA8.out (by have := HL.out; omega) (Kd.C_below HB.out hb) HB8.out hp hn)
    generalize hideK secret = KH at *
    generalize markK secret = KM at *
    rcases hs with rfl | rfl
    · have t1 : ((0 : Int) != 0) = false := by decide
      clear hsd hem h0
      go_enter Try.func11, Try.ntmps11
      go_wp2_with fail
      refine HN.out.mono ?_
      rintro e w2 ⟨g, p, q, rfl, hg, hp, hqq, hgq, hse, hb⟩
      have HS2 := Lib.hid hse
      have HO1 := Lib.hid (show w.heap.size ≤ g ∧ w.heap.size ≤ p ∧ w.heap.size ≤ q from ⟨hg, hp, hqq⟩)
      have HB2 := Lib.hid hb
      have HNe := Lib.hid hgq
      clear hg hp hqq hgq hse hb HNw HN
      by_cases hlo : next = 0
      · obtain ⟨nx, hnx⟩ : ∃ n, n = next := ⟨_, rfl⟩
        have HSk := Lib.hid (skip_low g p 1 next w2 HS2.out.c1 HS2.out.cn ⟨by decide, by decide⟩ (by omega))
        have u1 : decide ((1 : Int) ≤ (next : Int)) = false := decide_eq_false (by omega)
        have u2 : decide (1 ≤ next) = false := decide_eq_false (by omega)
        have u3 : ((1 : Int) == (next : Int)) = false := by rw [beq_eq_false_iff_ne]; omega
        have u4 : ¬ (1 : Int) ≤ (next : Int) := by omega
        clear hlo hnx nx
        go_wp2_with fail
        refine HSk.out.mono ?_
        rintro e w3 ⟨rfl, hw⟩
        rw [hw]
        clear hw w3 HSk
        obtain ⟨w3, rfl⟩ : ∃ W : World, W = w2 := ⟨_, rfl⟩
        have HS3 := Lib.hid HS2.out
        have HB3 := Lib.hid HB2.out
        clear HS2 HB2
        have hnx := next_any g p 1 w3 HS3.out.c1 HS3.out.cn (by decide)
        rw [show ((1 : Nat) : Int) = 1 from rfl] at hnx
        have HNx := Lib.hid hnx
        clear hnx
        go_wp2_with fail
        refine HNx.out.mono ?_
        rintro e w4 ⟨rfl, hw⟩
        rw [hw]
        clear hw w4 HNx
        have HSe := Lib.hid (seal_any g p q 0 1 0 KH KM plain B cb w3 HS3.out (.inl rfl) (by decide) (by decide) (by decide) HHl.out HH8.out HM8.out HNe.out (Kd.C_below HB.out HB3.out) (fun h0 ad e => by have := HBk.out h0 ad e; have := HO1.out; omega) (by have := HSm.out; omega) HB8.out)
        go_wp2_with fail
        refine HSe.out.mono ?_
        rintro e w4 ⟨v4, rfl, hro, hse, hgr, _⟩
        obtain ⟨A4, c4, rfl, hc4, hC4, _⟩ := hro
        have HS4 := Lib.hid hse
        have HB4 := Lib.hid (hgr.low HB3.out HO1.out.1 HO1.out.2.2 HB3.out.size)
        have HC4 := Lib.hid hC4
        obtain ⟨X, hX⟩ : ∃ X, sealN 0 KH KM 1 plain = X := ⟨_, rfl⟩
        have HXe := Lib.hid hX
        rw [hX] at HC4 ⊢
        clear hse hgr hc4 hC4 hX HSe HS3
        have q1 : ∀ x : Q.GW w4.drew w4.heap.size none, (convert 41 9 (.slice A4 X.length c4)).run Try.prog x.w = .ok (.string (strOfNums (nat X))) x.w := fun x => strS rfl (Kd.C_below HC4.out ((stay0 w4).trans (Q.GW.below (W := w4.drew) x)))
        go_wp2_with fail
        refine Q.wp_region_segs none [([0, 1, 2, 3, 4, 5, 6, 7, 8], some 9), ([10, 11, 12], none)] (by kernel_rfl) (by kernel_rfl) (by kernel_rfl) (by kernel_rfl) ?_
        dsimp only [Q.wpSegs, Q.picks, Q.pick]
        repeat (go_big_quiet_step (fail))
        refine wpQuiet_nil ?_
        clear q1
        have hq := HRf.out 1 w4.drew HB4.out.drew (by decide) (by have := HSm.out; omega)
        rw [HXe.out] at hq
        rw [show ((1 : Nat) : Int) = 1 from rfl] at hq
        have HQ := Lib.hid hq
        clear hq
        go_wp2_with fail
        refine HQ.out.mono ?_
        rintro e w5 ⟨v5, rfl, hr5, hb5⟩
        obtain ⟨A5, c5, hv5, hc5, hC5⟩ := Kd.R_reads hr5
        rw [nat_length] at hv5 hC5
        subst hv5
        have HC5 := Lib.hid hC5
        have hbd : Below w4.heap.size w4 w5 := (stay0 w4).trans hb5
        have HS5 := Lib.hid (HS4.out.keep hbd)
        have HB5 := Lib.hid (HB4.out.trans (hbd.mono HB4.out.size))
        have Hev := Lib.hid hb5
        clear hr5 hb5 hbd hc5 hC5 HQ HC4 HB4 HS4
        go_wp2_with fail
        refine Q.ev_done Hev.out (Nat.le_refl _) ?_
        have q2 : ∀ x : Q.GW w5 w5.heap.size none, (convert 41 9 (.slice A5 X.length c5)).run Try.prog x.w = .ok (.string (strOfNums (nat X))) x.w := fun x => strS rfl (Kd.C_below HC5.out x.below)
        repeat (go_big_quiet_step (fail))
        refine wpQuiet_nil ?_
        clear q2 Hev HC5
        refine NoPanic.normal ?_
        go_wp2_with fail
        refine (alive07_any w5).mono ?_
        rintro e w6 ⟨rfl, hb6⟩
        have HS6 := Lib.hid (HS5.out.keep hb6)
        have HB6 := Lib.hid (HB5.out.trans (hb6.mono HB5.out.size))
        clear hb6
        have hnx := next_any g p (1 + 1) w6 HS6.out.c1 HS6.out.cn (by decide)
        have HNx := Lib.hid hnx
        clear hnx
        go_wp2_with fail
        refine HNx.out.mono ?_
        rintro e w4 ⟨rfl, hw⟩
        rw [hw]
        clear hw w4 HNx
        go_wp2_with fail
        go_ret
        exact ⟨rfl, HB6.out⟩
      by_cases hhi : 9223372036854775807 < next
      · have HSk := Lib.hid (skip_high g p 1 next w2 HS2.out.c1 HS2.out.cn ⟨by decide, by decide⟩ hhi)
        have u1 : decide ((1 : Int) ≤ (next : Int)) = true := decide_eq_true (by omega)
        have u2 : decide (1 ≤ next) = true := decide_eq_true (by omega)
        have u5 : decide ((next : Int) ≤ 9223372036854775807) = false := decide_eq_false (by omega)
        have u6 : decide (next ≤ 9223372036854775807) = false := decide_eq_false (by omega)
        have u3 : ((1 : Int) == (next : Int)) = false := by rw [beq_eq_false_iff_ne]; omega
        clear hlo hhi
        go_wp2_with fail
        refine HSk.out.mono ?_
        rintro e w3 ⟨rfl, hw⟩
        rw [hw]
        clear hw w3 HSk
        obtain ⟨w3, rfl⟩ : ∃ W : World, W = w2 := ⟨_, rfl⟩
        have HS3 := Lib.hid HS2.out
        have HB3 := Lib.hid HB2.out
        clear HS2 HB2
        have hnx := next_any g p 1 w3 HS3.out.c1 HS3.out.cn (by decide)
        rw [show ((1 : Nat) : Int) = 1 from rfl] at hnx
        have HNx := Lib.hid hnx
        clear hnx
        go_wp2_with fail
        refine HNx.out.mono ?_
        rintro e w4 ⟨rfl, hw⟩
        rw [hw]
        clear hw w4 HNx
        have HSe := Lib.hid (seal_any g p q 0 1 0 KH KM plain B cb w3 HS3.out (.inl rfl) (by decide) (by decide) (by decide) HHl.out HH8.out HM8.out HNe.out (Kd.C_below HB.out HB3.out) (fun h0 ad e => by have := HBk.out h0 ad e; have := HO1.out; omega) (by have := HSm.out; omega) HB8.out)
        go_wp2_with fail
        refine HSe.out.mono ?_
        rintro e w4 ⟨v4, rfl, hro, hse, hgr, _⟩
        obtain ⟨A4, c4, rfl, hc4, hC4, _⟩ := hro
        have HS4 := Lib.hid hse
        have HB4 := Lib.hid (hgr.low HB3.out HO1.out.1 HO1.out.2.2 HB3.out.size)
        have HC4 := Lib.hid hC4
        obtain ⟨X, hX⟩ : ∃ X, sealN 0 KH KM 1 plain = X := ⟨_, rfl⟩
        have HXe := Lib.hid hX
        rw [hX] at HC4 ⊢
        clear hse hgr hc4 hC4 hX HSe HS3
        have q1 : ∀ x : Q.GW w4.drew w4.heap.size none, (convert 41 9 (.slice A4 X.length c4)).run Try.prog x.w = .ok (.string (strOfNums (nat X))) x.w := fun x => strS rfl (Kd.C_below HC4.out ((stay0 w4).trans (Q.GW.below (W := w4.drew) x)))
        go_wp2_with fail
        refine Q.wp_region_segs none [([0, 1, 2, 3, 4, 5, 6, 7, 8], some 9), ([10, 11, 12], none)] (by kernel_rfl) (by kernel_rfl) (by kernel_rfl) (by kernel_rfl) ?_
        dsimp only [Q.wpSegs, Q.picks, Q.pick]
        repeat (go_big_quiet_step (fail))
        refine wpQuiet_nil ?_
        clear q1
        have hq := HRf.out 1 w4.drew HB4.out.drew (by decide) (by have := HSm.out; omega)
        rw [HXe.out] at hq
        rw [show ((1 : Nat) : Int) = 1 from rfl] at hq
        have HQ := Lib.hid hq
        clear hq
        go_wp2_with fail
        refine HQ.out.mono ?_
        rintro e w5 ⟨v5, rfl, hr5, hb5⟩
        obtain ⟨A5, c5, hv5, hc5, hC5⟩ := Kd.R_reads hr5
        rw [nat_length] at hv5 hC5
        subst hv5
        have HC5 := Lib.hid hC5
        have hbd : Below w4.heap.size w4 w5 := (stay0 w4).trans hb5
        have HS5 := Lib.hid (HS4.out.keep hbd)
        have HB5 := Lib.hid (HB4.out.trans (hbd.mono HB4.out.size))
        have Hev := Lib.hid hb5
        clear hr5 hb5 hbd hc5 hC5 HQ HC4 HB4 HS4
        go_wp2_with fail
        refine Q.ev_done Hev.out (Nat.le_refl _) ?_
        have q2 : ∀ x : Q.GW w5 w5.heap.size none, (convert 41 9 (.slice A5 X.length c5)).run Try.prog x.w = .ok (.string (strOfNums (nat X))) x.w := fun x => strS rfl (Kd.C_below HC5.out x.below)
        repeat (go_big_quiet_step (fail))
        refine wpQuiet_nil ?_
        clear q2 Hev HC5
        refine NoPanic.normal ?_
        go_wp2_with fail
        refine (alive07_any w5).mono ?_
        rintro e w6 ⟨rfl, hb6⟩
        have HS6 := Lib.hid (HS5.out.keep hb6)
        have HB6 := Lib.hid (HB5.out.trans (hb6.mono HB5.out.size))
        clear hb6
        have hnx := next_any g p (1 + 1) w6 HS6.out.c1 HS6.out.cn (by decide)
        have HNx := Lib.hid hnx
        clear hnx
        go_wp2_with fail
        refine HNx.out.mono ?_
        rintro e w4 ⟨rfl, hw⟩
        rw [hw]
        clear hw w4 HNx
        go_wp2_with fail
        go_ret
        exact ⟨rfl, HB6.out⟩
      have HSk := Lib.hid (skip_ok g p 1 next w2 HS2.out.c1 HS2.out.cn (HS2.out.fz 18) ⟨by decide, by decide⟩ (by omega))
      have u1 : decide ((1 : Int) ≤ (next : Int)) = true := decide_eq_true (by omega)
      have u2 : decide (1 ≤ next) = true := decide_eq_true (by omega)
      have u5 : decide ((next : Int) ≤ 9223372036854775807) = true := decide_eq_true (by omega)
      have u6 : decide (next ≤ 9223372036854775807) = true := decide_eq_true (by omega)
      have u7 : (next : Int) ≤ 9223372036854775807 := by omega
      have u8 : (1 : Int) ≤ (next : Int) := by omega
      have HXn := Lib.hid (show 1 ≤ next ∧ next ≤ 9223372036854775807 from by omega)
      clear hlo hhi
      go_wp2_with fail
      refine HSk.out.mono ?_
      rintro e w3 ⟨rfl, hw⟩
      have hs3 : SE g p q 0 KH KM next 0 w3 := by rw [hw]; exact SE.num HS2.out HNe.out.1 HNe.out.2 next
      have HS3 := Lib.hid hs3
      have HB3 := Lib.hid (show Below w.heap.size w w3 from by rw [hw]; exact HB2.out.setCell HO1.out.1 _)
      clear hw hs3 HSk HS2 HB2
      have hnx := next_any g p next w3 HS3.out.c1 HS3.out.cn (by exact HXn.out.2)
      have HNx := Lib.hid hnx
      clear hnx
      go_wp2_with fail
      refine HNx.out.mono ?_
      rintro e w4 ⟨rfl, hw⟩
      rw [hw]
      clear hw w4 HNx
      have HSe := Lib.hid (seal_any g p q 0 next 0 KH KM plain B cb w3 HS3.out (.inl rfl) (by exact HXn.out.1) (by exact HXn.out.2) (by decide) HHl.out HH8.out HM8.out HNe.out (Kd.C_below HB.out HB3.out) (fun h0 ad e => by have := HBk.out h0 ad e; have := HO1.out; omega) (by have := HSm.out; omega) HB8.out)
      go_wp2_with fail
      refine HSe.out.mono ?_
      rintro e w4 ⟨v4, rfl, hro, hse, hgr, _⟩
      obtain ⟨A4, c4, rfl, hc4, hC4, _⟩ := hro
      have HS4 := Lib.hid hse
      have HB4 := Lib.hid (hgr.low HB3.out HO1.out.1 HO1.out.2.2 HB3.out.size)
      have HC4 := Lib.hid hC4
      obtain ⟨X, hX⟩ : ∃ X, sealN 0 KH KM next plain = X := ⟨_, rfl⟩
      have HXe := Lib.hid hX
      rw [hX] at HC4 ⊢
      clear hse hgr hc4 hC4 hX HSe HS3
      have q1 : ∀ x : Q.GW w4.drew w4.heap.size none, (convert 41 9 (.slice A4 X.length c4)).run Try.prog x.w = .ok (.string (strOfNums (nat X))) x.w := fun x => strS rfl (Kd.C_below HC4.out ((stay0 w4).trans (Q.GW.below (W := w4.drew) x)))
      go_wp2_with fail
      refine Q.wp_region_segs none [([0, 1, 2, 3, 4, 5, 6, 7, 8], some 9), ([10, 11, 12], none)] (by kernel_rfl) (by kernel_rfl) (by kernel_rfl) (by kernel_rfl) ?_
      dsimp only [Q.wpSegs, Q.picks, Q.pick]
      repeat (go_big_quiet_step (fail))
      refine wpQuiet_nil ?_
      clear q1
      have hq := HRf.out next w4.drew HB4.out.drew (by exact HXn.out.2) (by have := HSm.out; omega)
      rw [HXe.out] at hq
      have HQ := Lib.hid hq
      clear hq
      go_wp2_with fail
      refine HQ.out.mono ?_
      rintro e w5 ⟨v5, rfl, hr5, hb5⟩
      obtain ⟨A5, c5, hv5, hc5, hC5⟩ := Kd.R_reads hr5
      rw [nat_length] at hv5 hC5
      subst hv5
      have HC5 := Lib.hid hC5
      have hbd : Below w4.heap.size w4 w5 := (stay0 w4).trans hb5
      have HS5 := Lib.hid (HS4.out.keep hbd)
      have HB5 := Lib.hid (HB4.out.trans (hbd.mono HB4.out.size))
      have Hev := Lib.hid hb5
      clear hr5 hb5 hbd hc5 hC5 HQ HC4 HB4 HS4
      go_wp2_with fail
      refine Q.ev_done Hev.out (Nat.le_refl _) ?_
      have q2 : ∀ x : Q.GW w5 w5.heap.size none, (convert 41 9 (.slice A5 X.length c5)).run Try.prog x.w = .ok (.string (strOfNums (nat X))) x.w := fun x => strS rfl (Kd.C_below HC5.out x.below)
      repeat (go_big_quiet_step (fail))
      refine wpQuiet_nil ?_
      clear q2 Hev HC5
      refine NoPanic.normal ?_
      by_cases hmx : next < 9223372036854775807
      · have v1 : (next : Int) < 9223372036854775807 := by omega
        have v2 : decide ((next : Int) < 9223372036854775807) = true := decide_eq_true v1
        have HMx := Lib.hid hmx
        obtain ⟨n1, hn1⟩ : ∃ n, next + 1 = n := ⟨_, rfl⟩
        have v3 : (next : Int) + 1 = (n1 : Int) := by omega
        have HN1 := Lib.hid hn1
        clear hmx hn1
        go_wp2_with fail
        refine (alive07_any w5).mono ?_
        rintro e w6 ⟨rfl, hb6⟩
        have HS6 := Lib.hid (HS5.out.keep hb6)
        have HB6 := Lib.hid (HB5.out.trans (hb6.mono HB5.out.size))
        clear hb6
        have hnx := next_any g p (next + 1) w6 HS6.out.c1 HS6.out.cn (by have := HMx.out; omega)
        rw [HN1.out] at hnx
        have HNx := Lib.hid hnx
        clear hnx
        go_wp2_with fail
        refine HNx.out.mono ?_
        rintro e w4 ⟨rfl, hw⟩
        rw [hw]
        clear hw w4 HNx
        go_wp2_with fail
        go_ret
        exact ⟨rfl, HB6.out⟩
      have v1 : ¬ (next : Int) < 9223372036854775807 := by omega
      have v2 : decide ((next : Int) < 9223372036854775807) = false := decide_eq_false v1
      have hcn : w5.cell? ⟨g, 18, none⟩ = some (.int .u64 9223372036854775808) := by
        have := HS5.out.cn
        rwa [show ((next + 1 : Nat) : Int) = 9223372036854775808 from by have := HXn.out.2; omega] at this
      have HCn := Lib.hid hcn
      have HC1 := Lib.hid HS5.out.c1
      have HSo := Lib.hid (seal_over g p plain.length cb B w5 HC1.out HCn.out (by have := HSm.out; omega))
      clear hmx hcn HS5
      go_wp2_with fail
      refine HSo.out.mono ?_
      rintro e w6 ⟨rfl, hw⟩
      rw [hw]
      clear hw w6 HSo
      go_wp2_with fail
      refine (alive07_any w5).mono ?_
      rintro e w6 ⟨rfl, hb6⟩
      have hc1 := pw_cell_below hb6 HC1.out
      have hc18 := pw_cell_below hb6 HCn.out
      have HNo := Lib.hid (next_over g p w6 hc1 hc18)
      have HSk := Lib.hid (skip_over g p (next : Int) w6 hc1 hc18)
      have HB6 := Lib.hid (HB5.out.trans (hb6.mono HB5.out.size))
      clear hb6 hc1 hc18
      go_wp2_with fail
      refine HNo.out.mono ?_
      rintro e w4 ⟨rfl, hw⟩
      rw [hw]
      clear hw w4 HNo
      go_wp2_with fail
      refine HSk.out.mono ?_
      rintro e w4 ⟨rfl, hw⟩
      rw [hw]
      clear hw w4 HSk
      go_wp2_with fail
      go_ret
      exact ⟨rfl, HB6.out⟩
    · have t1 : ((1 : Int) != 0) = true := by decide
      have t2 : ((1 : Int) != 1) = false := by decide
      clear hsd hem h0
      go_enter Try.func11, Try.ntmps11
      go_wp2_with fail
      refine HN.out.mono ?_
      rintro e w2 ⟨g, p, q, rfl, hg, hp, hqq, hgq, hse, hb⟩
      have HS2 := Lib.hid hse
      have HO1 := Lib.hid (show w.heap.size ≤ g ∧ w.heap.size ≤ p ∧ w.heap.size ≤ q from ⟨hg, hp, hqq⟩)
      have HB2 := Lib.hid hb
      have HNe := Lib.hid hgq
      clear hg hp hqq hgq hse hb HNw HN
      by_cases hlo : next = 0
      · obtain ⟨nx, hnx⟩ : ∃ n, n = next := ⟨_, rfl⟩
        have HSk := Lib.hid (skip_low g p 1 next w2 HS2.out.c1 HS2.out.cn ⟨by decide, by decide⟩ (by omega))
        have u1 : decide ((1 : Int) ≤ (next : Int)) = false := decide_eq_false (by omega)
        have u2 : decide (1 ≤ next) = false := decide_eq_false (by omega)
        have u3 : ((1 : Int) == (next : Int)) = false := by rw [beq_eq_false_iff_ne]; omega
        have u4 : ¬ (1 : Int) ≤ (next : Int) := by omega
        clear hlo hnx nx
        go_wp2_with fail
        refine HSk.out.mono ?_
        rintro e w3 ⟨rfl, hw⟩
        rw [hw]
        clear hw w3 HSk
        obtain ⟨w3, rfl⟩ : ∃ W : World, W = w2 := ⟨_, rfl⟩
        have HS3 := Lib.hid HS2.out
        have HB3 := Lib.hid HB2.out
        clear HS2 HB2
        have hnx := next_any g p 1 w3 HS3.out.c1 HS3.out.cn (by decide)
        rw [show ((1 : Nat) : Int) = 1 from rfl] at hnx
        have HNx := Lib.hid hnx
        clear hnx
        go_wp2_with fail
        refine HNx.out.mono ?_
        rintro e w4 ⟨rfl, hw⟩
        rw [hw]
        clear hw w4 HNx
        have HSe := Lib.hid (seal_any g p q 1 1 0 KH KM plain B cb w3 HS3.out (.inr rfl) (by decide) (by decide) (by decide) HHl.out HH8.out HM8.out HNe.out (Kd.C_below HB.out HB3.out) (fun h0 ad e => by have := HBk.out h0 ad e; have := HO1.out; omega) (by have := HSm.out; omega) HB8.out)
        go_wp2_with fail
        refine HSe.out.mono ?_
        rintro e w4 ⟨v4, rfl, hro, hse, hgr, _⟩
        obtain ⟨A4, c4, rfl, hc4, hC4, _⟩ := hro
        have HS4 := Lib.hid hse
        have HB4 := Lib.hid (hgr.low HB3.out HO1.out.1 HO1.out.2.2 HB3.out.size)
        have HC4 := Lib.hid hC4
        obtain ⟨X, hX⟩ : ∃ X, sealN 1 KH KM 1 plain = X := ⟨_, rfl⟩
        have HXe := Lib.hid hX
        rw [hX] at HC4 ⊢
        clear hse hgr hc4 hC4 hX HSe HS3
        have q1 : ∀ x : Q.GW w4.drew w4.heap.size none, (convert 41 9 (.slice A4 X.length c4)).run Try.prog x.w = .ok (.string (strOfNums (nat X))) x.w := fun x => strS rfl (Kd.C_below HC4.out ((stay0 w4).trans (Q.GW.below (W := w4.drew) x)))
        go_wp2_with fail
        refine Q.wp_region_segs none [([0, 1, 2, 3, 4, 5, 6, 7, 8], some 9), ([10, 11, 12], none)] (by kernel_rfl) (by kernel_rfl) (by kernel_rfl) (by kernel_rfl) ?_
        dsimp only [Q.wpSegs, Q.picks, Q.pick]
        repeat (go_big_quiet_step (fail))
        refine wpQuiet_nil ?_
        clear q1
        have hq := HRf.out 1 w4.drew HB4.out.drew (by decide) (by have := HSm.out; omega)
        rw [HXe.out] at hq
        rw [show ((1 : Nat) : Int) = 1 from rfl] at hq
        have HQ := Lib.hid hq
        clear hq
        go_wp2_with fail
        refine HQ.out.mono ?_
        rintro e w5 ⟨v5, rfl, hr5, hb5⟩
        obtain ⟨A5, c5, hv5, hc5, hC5⟩ := Kd.R_reads hr5
        rw [nat_length] at hv5 hC5
        subst hv5
        have HC5 := Lib.hid hC5
        have hbd : Below w4.heap.size w4 w5 := (stay0 w4).trans hb5
        have HS5 := Lib.hid (HS4.out.keep hbd)
        have HB5 := Lib.hid (HB4.out.trans (hbd.mono HB4.out.size))
        have Hev := Lib.hid hb5
        clear hr5 hb5 hbd hc5 hC5 HQ HC4 HB4 HS4
        go_wp2_with fail
        refine Q.ev_done Hev.out (Nat.le_refl _) ?_
        have q2 : ∀ x : Q.GW w5 w5.heap.size none, (convert 41 9 (.slice A5 X.length c5)).run Try.prog x.w = .ok (.string (strOfNums (nat X))) x.w := fun x => strS rfl (Kd.C_below HC5.out x.below)
        repeat (go_big_quiet_step (fail))
        refine wpQuiet_nil ?_
        clear q2 Hev HC5
        refine NoPanic.normal ?_
        go_wp2_with fail
        refine (alive07_any w5).mono ?_
        rintro e w6 ⟨rfl, hb6⟩
        have HS6 := Lib.hid (HS5.out.keep hb6)
        have HB6 := Lib.hid (HB5.out.trans (hb6.mono HB5.out.size))
        clear hb6
        have hnx := next_any g p (1 + 1) w6 HS6.out.c1 HS6.out.cn (by decide)
        have HNx := Lib.hid hnx
        clear hnx
        go_wp2_with fail
        refine HNx.out.mono ?_
        rintro e w4 ⟨rfl, hw⟩
        rw [hw]
        clear hw w4 HNx
        go_wp2_with fail
        go_ret
        exact ⟨rfl, HB6.out⟩
      by_cases hhi : 9223372036854775807 < next
      · have HSk := Lib.hid (skip_high g p 1 next w2 HS2.out.c1 HS2.out.cn ⟨by decide, by decide⟩ hhi)
        have u1 : decide ((1 : Int) ≤ (next : Int)) = true := decide_eq_true (by omega)
        have u2 : decide (1 ≤ next) = true := decide_eq_true (by omega)
        have u5 : decide ((next : Int) ≤ 9223372036854775807) = false := decide_eq_false (by omega)
        have u6 : decide (next ≤ 9223372036854775807) = false := decide_eq_false (by omega)
        have u3 : ((1 : Int) == (next : Int)) = false := by rw [beq_eq_false_iff_ne]; omega
        clear hlo hhi
        go_wp2_with fail
        refine HSk.out.mono ?_
        rintro e w3 ⟨rfl, hw⟩
        rw [hw]
        clear hw w3 HSk
        obtain ⟨w3, rfl⟩ : ∃ W : World, W = w2 := ⟨_, rfl⟩
        have HS3 := Lib.hid HS2.out
        have HB3 := Lib.hid HB2.out
        clear HS2 HB2
        have hnx := next_any g p 1 w3 HS3.out.c1 HS3.out.cn (by decide)
        rw [show ((1 : Nat) : Int) = 1 from rfl] at hnx
        have HNx := Lib.hid hnx
        clear hnx
        go_wp2_with fail
        refine HNx.out.mono ?_
        rintro e w4 ⟨rfl, hw⟩
        rw [hw]
        clear hw w4 HNx
        have HSe := Lib.hid (seal_any g p q 1 1 0 KH KM plain B cb w3 HS3.out (.inr rfl) (by decide) (by decide) (by decide) HHl.out HH8.out HM8.out HNe.out (Kd.C_below HB.out HB3.out) (fun h0 ad e => by have := HBk.out h0 ad e; have := HO1.out; omega) (by have := HSm.out; omega) HB8.out)
        go_wp2_with fail
        refine HSe.out.mono ?_
        rintro e w4 ⟨v4, rfl, hro, hse, hgr, _⟩
        obtain ⟨A4, c4, rfl, hc4, hC4, _⟩ := hro
        have HS4 := Lib.hid hse
        have HB4 := Lib.hid (hgr.low HB3.out HO1.out.1 HO1.out.2.2 HB3.out.size)
        have HC4 := Lib.hid hC4
        obtain ⟨X, hX⟩ : ∃ X, sealN 1 KH KM 1 plain = X := ⟨_, rfl⟩
        have HXe := Lib.hid hX
        rw [hX] at HC4 ⊢
        clear hse hgr hc4 hC4 hX HSe HS3
        have q1 : ∀ x : Q.GW w4.drew w4.heap.size none, (convert 41 9 (.slice A4 X.length c4)).run Try.prog x.w = .ok (.string (strOfNums (nat X))) x.w := fun x => strS rfl (Kd.C_below HC4.out ((stay0 w4).trans (Q.GW.below (W := w4.drew) x)))
        go_wp2_with fail
        refine Q.wp_region_segs none [([0, 1, 2, 3, 4, 5, 6, 7, 8], some 9), ([10, 11, 12], none)] (by kernel_rfl) (by kernel_rfl) (by kernel_rfl) (by kernel_rfl) ?_
        dsimp only [Q.wpSegs, Q.picks, Q.pick]
        repeat (go_big_quiet_step (fail))
        refine wpQuiet_nil ?_
        clear q1
        have hq := HRf.out 1 w4.drew HB4.out.drew (by decide) (by have := HSm.out; omega)
        rw [HXe.out] at hq
        rw [show ((1 : Nat) : Int) = 1 from rfl] at hq
        have HQ := Lib.hid hq
        clear hq
        go_wp2_with fail
        refine HQ.out.mono ?_
        rintro e w5 ⟨v5, rfl, hr5, hb5⟩
        obtain ⟨A5, c5, hv5, hc5, hC5⟩ := Kd.R_reads hr5
        rw [nat_length] at hv5 hC5
        subst hv5
        have HC5 := Lib.hid hC5
        have hbd : Below w4.heap.size w4 w5 := (stay0 w4).trans hb5
        have HS5 := Lib.hid (HS4.out.keep hbd)
        have HB5 := Lib.hid (HB4.out.trans (hbd.mono HB4.out.size))
        have Hev := Lib.hid hb5
        clear hr5 hb5 hbd hc5 hC5 HQ HC4 HB4 HS4
        go_wp2_with fail
        refine Q.ev_done Hev.out (Nat.le_refl _) ?_
        have q2 : ∀ x : Q.GW w5 w5.heap.size none, (convert 41 9 (.slice A5 X.length c5)).run Try.prog x.w = .ok (.string (strOfNums (nat X))) x.w := fun x => strS rfl (Kd.C_below HC5.out x.below)
        repeat (go_big_quiet_step (fail))
        refine wpQuiet_nil ?_
        clear q2 Hev HC5
        refine NoPanic.normal ?_
        go_wp2_with fail
        refine (alive07_any w5).mono ?_
        rintro e w6 ⟨rfl, hb6⟩
        have HS6 := Lib.hid (HS5.out.keep hb6)
        have HB6 := Lib.hid (HB5.out.trans (hb6.mono HB5.out.size))
        clear hb6
        have hnx := next_any g p (1 + 1) w6 HS6.out.c1 HS6.out.cn (by decide)
        have HNx := Lib.hid hnx
        clear hnx
        go_wp2_with fail
        refine HNx.out.mono ?_
        rintro e w4 ⟨rfl, hw⟩
        rw [hw]
        clear hw w4 HNx
        go_wp2_with fail
        go_ret
        exact ⟨rfl, HB6.out⟩
      have HSk := Lib.hid (skip_ok g p 1 next w2 HS2.out.c1 HS2.out.cn (HS2.out.fz 18) ⟨by decide, by decide⟩ (by omega))
      have u1 : decide ((1 : Int) ≤ (next : Int)) = true := decide_eq_true (by omega)
      have u2 : decide (1 ≤ next) = true := decide_eq_true (by omega)
      have u5 : decide ((next : Int) ≤ 9223372036854775807) = true := decide_eq_true (by omega)
      have u6 : decide (next ≤ 9223372036854775807) = true := decide_eq_true (by omega)
      have u7 : (next : Int) ≤ 9223372036854775807 := by omega
      have u8 : (1 : Int) ≤ (next : Int) := by omega
      have HXn := Lib.hid (show 1 ≤ next ∧ next ≤ 9223372036854775807 from by omega)
      clear hlo hhi
      go_wp2_with fail
      refine HSk.out.mono ?_
      rintro e w3 ⟨rfl, hw⟩
      have hs3 : SE g p q 1 KH KM next 0 w3 := by rw [hw]; exact SE.num HS2.out HNe.out.1 HNe.out.2 next
      have HS3 := Lib.hid hs3
      have HB3 := Lib.hid (show Below w.heap.size w w3 from by rw [hw]; exact HB2.out.setCell HO1.out.1 _)
      clear hw hs3 HSk HS2 HB2
      have hnx := next_any g p next w3 HS3.out.c1 HS3.out.cn (by exact HXn.out.2)
      have HNx := Lib.hid hnx
      clear hnx
      go_wp2_with fail
      refine HNx.out.mono ?_
      rintro e w4 ⟨rfl, hw⟩
      rw [hw]
      clear hw w4 HNx
      have HSe := Lib.hid (seal_any g p q 1 next 0 KH KM plain B cb w3 HS3.out (.inr rfl) (by exact HXn.out.1) (by exact HXn.out.2) (by decide) HHl.out HH8.out HM8.out HNe.out (Kd.C_below HB.out HB3.out) (fun h0 ad e => by have := HBk.out h0 ad e; have := HO1.out; omega) (by have := HSm.out; omega) HB8.out)
      go_wp2_with fail
      refine HSe.out.mono ?_
      rintro e w4 ⟨v4, rfl, hro, hse, hgr, _⟩
      obtain ⟨A4, c4, rfl, hc4, hC4, _⟩ := hro
      have HS4 := Lib.hid hse
      have HB4 := Lib.hid (hgr.low HB3.out HO1.out.1 HO1.out.2.2 HB3.out.size)
      have HC4 := Lib.hid hC4
      obtain ⟨X, hX⟩ : ∃ X, sealN 1 KH KM next plain = X := ⟨_, rfl⟩
      have HXe := Lib.hid hX
      rw [hX] at HC4 ⊢
      clear hse hgr hc4 hC4 hX HSe HS3
      have q1 : ∀ x : Q.GW w4.drew w4.heap.size none, (convert 41 9 (.slice A4 X.length c4)).run Try.prog x.w = .ok (.string (strOfNums (nat X))) x.w := fun x => strS rfl (Kd.C_below HC4.out ((stay0 w4).trans (Q.GW.below (W := w4.drew) x)))
      go_wp2_with fail
      refine Q.wp_region_segs none [([0, 1, 2, 3, 4, 5, 6, 7, 8], some 9), ([10, 11, 12], none)] (by kernel_rfl) (by kernel_rfl) (by kernel_rfl) (by kernel_rfl) ?_
      dsimp only [Q.wpSegs, Q.picks, Q.pick]
      repeat (go_big_quiet_step (fail))
      refine wpQuiet_nil ?_
      clear q1
      have hq := HRf.out next w4.drew HB4.out.drew (by exact HXn.out.2) (by have := HSm.out; omega)
      rw [HXe.out] at hq
      have HQ := Lib.hid hq
      clear hq
      go_wp2_with fail
      refine HQ.out.mono ?_
      rintro e w5 ⟨v5, rfl, hr5, hb5⟩
      obtain ⟨A5, c5, hv5, hc5, hC5⟩ := Kd.R_reads hr5
      rw [nat_length] at hv5 hC5
      subst hv5
      have HC5 := Lib.hid hC5
      have hbd : Below w4.heap.size w4 w5 := (stay0 w4).trans hb5
      have HS5 := Lib.hid (HS4.out.keep hbd)
      have HB5 := Lib.hid (HB4.out.trans (hbd.mono HB4.out.size))
      have Hev := Lib.hid hb5
      clear hr5 hb5 hbd hc5 hC5 HQ HC4 HB4 HS4
      go_wp2_with fail
      refine Q.ev_done Hev.out (Nat.le_refl _) ?_
      have q2 : ∀ x : Q.GW w5 w5.heap.size none, (convert 41 9 (.slice A5 X.length c5)).run Try.prog x.w = .ok (.string (strOfNums (nat X))) x.w := fun x => strS rfl (Kd.C_below HC5.out x.below)
      repeat (go_big_quiet_step (fail))
      refine wpQuiet_nil ?_
      clear q2 Hev HC5
      refine NoPanic.normal ?_
      by_cases hmx : next < 9223372036854775807
      · have v1 : (next : Int) < 9223372036854775807 := by omega
        have v2 : decide ((next : Int) < 9223372036854775807) = true := decide_eq_true v1
        have HMx := Lib.hid hmx
        obtain ⟨n1, hn1⟩ : ∃ n, next + 1 = n := ⟨_, rfl⟩
        have v3 : (next : Int) + 1 = (n1 : Int) := by omega
        have HN1 := Lib.hid hn1
        clear hmx hn1
        go_wp2_with fail
        refine (alive07_any w5).mono ?_
        rintro e w6 ⟨rfl, hb6⟩
        have HS6 := Lib.hid (HS5.out.keep hb6)
        have HB6 := Lib.hid (HB5.out.trans (hb6.mono HB5.out.size))
        clear hb6
        have hnx := next_any g p (next + 1) w6 HS6.out.c1 HS6.out.cn (by have := HMx.out; omega)
        rw [HN1.out] at hnx
        have HNx := Lib.hid hnx
        clear hnx
        go_wp2_with fail
        refine HNx.out.mono ?_
        rintro e w4 ⟨rfl, hw⟩
        rw [hw]
        clear hw w4 HNx
        go_wp2_with fail
        go_ret
        exact ⟨rfl, HB6.out⟩
      have v1 : ¬ (next : Int) < 9223372036854775807 := by omega
      have v2 : decide ((next : Int) < 9223372036854775807) = false := decide_eq_false v1
      have hcn : w5.cell? ⟨g, 18, none⟩ = some (.int .u64 9223372036854775808) := by
        have := HS5.out.cn
        rwa [show ((next + 1 : Nat) : Int) = 9223372036854775808 from by have := HXn.out.2; omega] at this
      have HCn := Lib.hid hcn
      have HC1 := Lib.hid HS5.out.c1
      have HSo := Lib.hid (seal_over g p plain.length cb B w5 HC1.out HCn.out (by have := HSm.out; omega))
      clear hmx hcn HS5
      go_wp2_with fail
      refine HSo.out.mono ?_
      rintro e w6 ⟨rfl, hw⟩
      rw [hw]
      clear hw w6 HSo
      go_wp2_with fail
      refine (alive07_any w5).mono ?_
      rintro e w6 ⟨rfl, hb6⟩
      have hc1 := pw_cell_below hb6 HC1.out
      have hc18 := pw_cell_below hb6 HCn.out
      have HNo := Lib.hid (next_over g p w6 hc1 hc18)
      have HSk := Lib.hid (skip_over g p (next : Int) w6 hc1 hc18)
      have HB6 := Lib.hid (HB5.out.trans (hb6.mono HB5.out.size))
      clear hb6 hc1 hc18
      go_wp2_with fail
      refine HNo.out.mono ?_
      rintro e w4 ⟨rfl, hw⟩
      rw [hw]
      clear hw w4 HNo
      go_wp2_with fail
      refine HSk.out.mono ?_
      rintro e w4 ⟨rfl, hw⟩
      rw [hw]
      clear hw w4 HSk
      go_wp2_with fail
      go_ret
      exact ⟨rfl, HB6.out⟩
theorem sealseals_walk (secret plain : List Int) (A B : Option Addr) (ca cb : Nat) (side next : Int) (w : World) (hA : (Kd.int .u8).C w A secret.length secret) (hca : secret.length ≤ ca) (ha : ∀ x ∈ secret, 0 ≤ x ∧ x < 256) (hB : (Kd.int .u8).C w B plain.length plain) (hb8 : ∀ x ∈ plain, 0 ≤ x ∧ x < 256) (hx : 0 ≤ next ∧ next < 18446744073709551616) :
    Calls Try.prog 11 #[.slice A secret.length ca, .int .i64 side, .int .u64 next, .slice B plain.length cb] w fun e w' => e = .returned (.bool true) ∧ Below w.heap.size w w' := by
  obtain ⟨m1, e1, k1, l1, _⟩ := C_nat (m := 256) hA ha
  obtain ⟨m2, e2, k2, l2, _⟩ := C_nat (m := 256) hB hb8
  obtain ⟨a, rfl⟩ : ∃ k : Nat, next = (k : Int) := ⟨next.toNat, by omega⟩
  rw [← e1, ← e2]
  exact sealseals_nat m1 m2 A B ca cb a side w k1 (by omega) l1 k2 l2 (by omega)
end Go.Proofs.Ytblnclooobggnaa.Se
