/-
  Parts of one proof, joined: How the data of a law's arguments read: a kind for each type (whole numbers, bools, texts, slices, structs), each shown once. | seal: SealTurned.
-/
import Derived.Test.YtblnclooobggnaaZB0
import Derived.Test.YtblnclooobggnaaZB1
import Derived.Test.YtblnclooobggnaaZB2
import Derived.Test.YtblnclooobggnaaZB3
import Derived.Test.YtblnclooobggnaaZB4
import Derived.Test.YtblnclooobggnaaZB5
import Derived.ProofKit
import Derived.OpenShut
import Derived.ShutString
import Derived.ChangeOld
import Derived.Below
import Derived.SizedLaws
import Derived.Deep.Slices
import Derived.Deep.Fields
import Derived.ChangeSame

namespace Go.Proofs.Ytblnclooobggnaa.Rd
open Go.RowKit Go.ChangeShapes Go.WideShapes Go.Deep Go.Proofs.Ytblnclooobggnaa.L Go.Proofs.YtblnclooobggnaaW.PrintWords

/-- Whatever data of type t read: there is a value of the kind, its cells those, and it is fine. -/
def Rd (P : Program) (t : TypeId) {α : Type} (d : Kd α) (ok : α → Prop) : Prop :=
  ∀ (H : Type) (enc : TypeId × Value → H) (W : World) (fuel : Nat) (cs : List Value) (x : DataW H × List MemPlace),
    DataW.trod enc P W 0 (fun _ => true) true fuel t cs = some x → (∀ n ∈ x.1.weights P t, n ≤ reachBytes) → ∃ a : α, d.K W a cs ∧ ok a

theorem mem_all {H : Type} {P : Program} {e : TypeId} {n : Nat} : ∀ {l : List (DataW H)} {d : DataW H}, d ∈ l → n ∈ d.weights P e → n ∈ DataW.weightsAll P e l
  | [], _, h, _ => by cases h
  | d0 :: l, d, h, hn => by
    rw [DataW.weightsAll]
    rcases List.mem_cons.1 h with rfl | h
    · exact List.mem_append_left _ hn
    · exact List.mem_append_right _ (mem_all h hn)

theorem exists_list {α : Type} {p : Nat → α → Prop} : ∀ (n : Nat), (∀ i, i < n → ∃ a, p i a) → ∃ l : List α, l.length = n ∧ ∀ i a, l[i]? = some a → p i a
  | 0, _ => ⟨[], rfl, fun i a h => by simp at h⟩
  | n + 1, h => by
    obtain ⟨l, hl, hp⟩ := exists_list n (fun i hi => h i (by omega))
    obtain ⟨a, ha⟩ := h n (by omega)
    refine ⟨l ++ [a], by simp [hl], fun i b hb => ?_⟩
    by_cases hi : i < l.length
    · rw [List.getElem?_append_left hi] at hb
      exact hp i b hb
    · have : i = n := by
        have := (List.getElem?_eq_some_iff.1 hb).1
        simp at this
        omega
      subst this
      rw [List.getElem?_append_right (by omega), hl] at hb
      simp at hb
      subst hb
      exact ha

theorem rd_int {P : Program} {t : TypeId} {k : IntKind} (ht : P.underlying t = some (.int k)) : Rd P t (Kd.int k) (fun n => (Lit.int k n).wf = true) := by
  intro H enc W fuel cs x h _
  cases fuel with
  | zero => cases h
  | succ fuel =>
    unfold DataW.trod at h
    rw [ht] at h
    split at h <;> simp_all
    exact ⟨_, rfl, h.1.2⟩
theorem rd_bool {P : Program} {t : TypeId} (ht : P.underlying t = some .bool) : Rd P t Kd.bool (fun _ => True) := by
  intro H enc W fuel cs x h _
  cases fuel with
  | zero => cases h
  | succ fuel =>
    have hb : ∃ b, cs = [Value.bool b] := by
      unfold DataW.trod at h
      rw [ht] at h
      split at h
      · exact ⟨_, rfl⟩
      all_goals simp_all
    obtain ⟨b, rfl⟩ := hb
    exact ⟨b, rfl, trivial⟩
theorem rd_string {P : Program} {t : TypeId} (ht : P.underlying t = some .string) : Rd P t Kd.string (fun s => s.size ≤ reachBytes) := by
  intro H enc W fuel cs x h hw
  cases fuel with
  | zero => cases h
  | succ fuel =>
    unfold DataW.trod at h
    rw [ht] at h
    split at h <;> simp_all
    obtain ⟨h1, rfl⟩ := h
    exact ⟨_, rfl, by simpa [DataW.weights] using hw⟩

theorem rd_slice {P : Program} {t e : TypeId} {α : Type} {d : Kd α} {ok : α → Prop} {B : Nat} (ht : P.underlying t = some (.slice e)) (hc : P.cellsOf e = d.sz) (hB : P.bytesOf e = B) (he : Rd P e d ok) :
    Rd P t (Kd.slice e d) (fun l => (∀ x ∈ l, ok x) ∧ l.length * B ≤ 140737488351232) := by
  intro H enc W fuel cs x h hw
  rcases open_slice ht h with ⟨rfl, _⟩ | ⟨a, len, cap, m, n, D, Pl, rfl, _, hlc, hcm, hm, rfl, hi⟩
  · exact ⟨[], ⟨none, 0, rfl, Nat.le_refl _, Kd.C_nil d W⟩, by simp, by simp⟩
  · simp only [if_true] at hm
    have hwt : ∀ i, i < len → ∀ n ∈ (D i).weights P e, n ≤ reachBytes := by
      intro i hi n hn
      refine hw n ?_
      simp only [DataW.weights, ht]
      refine List.mem_cons_of_mem _ (List.mem_append_left _ (mem_all ?_ hn))
      exact List.mem_map.2 ⟨i, List.mem_range.2 hi, rfl⟩
    have hlen : len * B ≤ 140737488351232 := by
      have h1 := hw ((((List.range len).map D).length + ((List.range (m - len)).map fun j => D (len + j)).length) * P.bytesOf e) (by simp [DataW.weights, ht])
      rw [hB] at h1
      simp only [List.length_map, List.length_range, reachBytes] at h1
      exact Nat.le_trans (Nat.mul_le_mul_right _ (by omega)) h1
    obtain ⟨l, hl, hp⟩ := exists_list (p := fun i y => ok y ∧ ∃ c, c.length = d.sz ∧ d.K W y c ∧ ∀ j u, c[j]? = some u → W.cell? (a.add (i * d.sz + j)) = some u) len (by
      intro i hil
      obtain ⟨cs', h1, h2⟩ := hi i (by omega)
      obtain ⟨y, hy, hok⟩ := he H enc W n cs' _ h2 (hwt i hil)
      obtain ⟨_, hcl, hat⟩ := World.cells?_some h1
      refine ⟨y, hok, cs', d.K_len hy, hy, fun j u hu => ?_⟩
      have hj : j < P.cellsOf e := by
        have := (List.getElem?_eq_some_iff.1 hu).1
        rw [d.K_len hy] at this
        omega
      rw [← Go.Deep.add_add, ← hc, hat j hj, hu])
    subst hl
    refine ⟨l, ⟨some a, cap, rfl, hlc, ⟨rfl, by simp only [maxLen] at hcm; omega, fun _ => ⟨a, rfl, fun j p hj => (hp j p hj).2⟩⟩⟩, fun y hy => ?_, hlen⟩
    obtain ⟨j, hj⟩ := List.getElem?_of_mem hy
    exact (hp j y hj).1

/-- Some fields of a struct, from a cell on. -/
def RdF (P : Program) (fs : List Field) (off : Nat) {α : Type} (d : Kd α) (ok : α → Prop) : Prop :=
  ∀ (H : Type) (enc : TypeId × Value → H) (W : World) (n : Nat) (cs : List Value) (ys : List (DataW H × List MemPlace)),
    ys.length = fs.length → (∀ (j : Nat) (f : Field), fs[j]? = some f → DataW.trod enc P W 0 (fun _ => true) true n f.type ((cs.drop f.offset).take (P.cellsOf f.type)) = ys[j]?) →
    (∀ m ∈ DataW.weightsEach P (fs.map (fun f : Field => f.type)) (ys.map (·.1)), m ≤ reachBytes) → ∃ a : α, d.K W a ((cs.drop off).take d.sz) ∧ ok a
theorem rdf_one {P : Program} {f : Field} {α : Type} {d : Kd α} {ok : α → Prop} (hc : P.cellsOf f.type = d.sz) (h : Rd P f.type d ok) : RdF P [f] f.offset d ok := by
  intro H enc W n cs ys hl hy hw
  match ys, hl with
  | [y], _ =>
    have h1 := hy 0 f rfl
    rw [hc] at h1
    exact h H enc W n _ y h1 (fun m hm => hw m (by simp [DataW.weightsEach, hm]))
theorem rdf_cons {P : Program} {f : Field} {fs : List Field} {α β : Type} {d : Kd α} {d2 : Kd β} {ok : α → Prop} {ok2 : β → Prop} {off : Nat} (hc : P.cellsOf f.type = d.sz) (ho : f.offset + d.sz = off) (h : Rd P f.type d ok) (h2 : RdF P fs off d2 ok2) :
    RdF P (f :: fs) f.offset (Kd.pair d d2) (fun x => ok x.1 ∧ ok2 x.2) := by
  intro H enc W n cs ys hl hy hw
  match ys, hl with
  | y :: ys, hl =>
    have h1 := hy 0 f rfl
    rw [hc] at h1
    obtain ⟨a, ha, hoka⟩ := h H enc W n _ y h1 (fun m hm => hw m (by simp [DataW.weightsEach, hm]))
    obtain ⟨b, hb, hokb⟩ := h2 H enc W n cs ys (by simpa using hl) (fun j g hj => hy (j + 1) g hj) (fun m hm => hw m (by simp only [List.map_cons, DataW.weightsEach]; exact List.mem_append_right _ hm))
    refine ⟨(a, b), ⟨_, _, ?_, ha, hb⟩, hoka, hokb⟩
    subst ho
    show (cs.drop f.offset).take (d.sz + d2.sz) = _
    rw [List.take_add, List.drop_drop]
theorem rd_struct {P : Program} {t : TypeId} {fs : Array Field} {α : Type} {d : Kd α} {ok : α → Prop} (ht : P.underlying t = some (.struct fs)) (hc : P.cellsOf t = d.sz) (h : RdF P fs.toList 0 d ok) : Rd P t d ok := by
  intro H enc W fuel cs x hx hw
  obtain ⟨ys, n', _, rfl, hlen, hyl, hf⟩ := DataW.trod_struct ht hx
  obtain ⟨a, ha, hok⟩ := h H enc W n' cs ys (by simpa using hyl) (fun j f hj => hf j f (by simpa using hj)) (fun m hm => hw m (by simpa [DataW.weights, ht] using hm))
  refine ⟨a, ?_, hok⟩
  rwa [List.drop_zero, List.take_of_length_le (by omega)] at ha

/-! ### arguments -/
section
variable {H : Type} {enc : TypeId × Value → H} {P : Program} {W : World} {r : Reach} {b0 : Nat} {t : TypeId} {v : Value} {d : DataW H} {ps : List MemPlace}
theorem wt_of {ts : List TypeId} {ds : List (DataW H)} (h : (DataW.weightsEach P ts ds).all (· ≤ reachBytes) = true) (j : Nat) (ht : ts[j]? = some t) (hd : ds[j]? = some d) : ∀ n ∈ d.weights P t, n ≤ reachBytes := by
  intro n hn
  have := List.all_eq_true.1 h _ (DataW.weights_mem_each ht hd n hn)
  simpa using this
theorem arg_slice {α : Type} {e : TypeId} {k : Kd α} {ok : List α → Prop} (ht : P.underlying t = some (.slice e)) (hr : Rd P t (Kd.slice e k) ok) (hv : Value.okWide P W r b0 t v) (hw : ∀ n ∈ d.weights P t, n ≤ reachBytes)
    (h : DataW.Trod enc P W 0 (fun _ => true) true t v d ps) : ∃ A c l, v = .slice A l.length c ∧ l.length ≤ c ∧ k.C W A l.length l ∧ ok l := by
  obtain ⟨a, len, cap, rfl⟩ := okWide_slice ht hv
  obtain ⟨fuel, hf⟩ := h
  obtain ⟨l, ⟨A, c, he, hl, hC⟩, hok⟩ := hr H enc W fuel _ _ hf hw
  simp only [Value.cells, List.cons.injEq, Value.slice.injEq, and_true] at he
  obtain ⟨rfl, rfl, rfl⟩ := he
  exact ⟨_, _, l, rfl, hl, hC, hok⟩
theorem arg_struct {α : Type} {fs : Array Field} {k : Kd α} {ok : α → Prop} (ht : P.underlying t = some (.struct fs)) (hr : Rd P t k ok) (hv : Value.okWide P W r b0 t v) (hw : ∀ n ∈ d.weights P t, n ≤ reachBytes)
    (h : DataW.Trod enc P W 0 (fun _ => true) true t v d ps) : ∃ cs a, v = .agg cs ∧ k.K W a cs.toList ∧ ok a := by
  obtain ⟨cs, rfl, _⟩ := okWide_struct ht hv
  obtain ⟨fuel, hf⟩ := h
  obtain ⟨a, hK, hok⟩ := hr H enc W fuel _ _ hf hw
  exact ⟨cs, a, rfl, hK, hok⟩
theorem arg_lt (h : DataW.Trod enc P W 0 (fun _ => true) true t v d ps) : ∀ x ∈ ps, x.block < W.heap.size := by
  obtain ⟨m, hm⟩ := h
  exact DataW.trod_lt m _ _ _ hm
end

theorem wf_u8 {x : Int} (h : (Lit.int .u8 x).wf = true) : 0 ≤ x ∧ x < 256 := by
  have h1 : IntKind.u8.min = 0 := rfl
  have h2 : IntKind.u8.max = 255 := rfl
  simp only [Lit.wf, Bool.and_eq_true, decide_eq_true_eq] at h
  omega
theorem wf_u32 {x : Int} (h : (Lit.int .u32 x).wf = true) : 0 ≤ x ∧ x < 4294967296 := by
  have h1 : IntKind.u32.min = 0 := rfl
  have h2 : IntKind.u32.max = 4294967295 := rfl
  simp only [Lit.wf, Bool.and_eq_true, decide_eq_true_eq] at h
  omega
theorem wf_u64 {x : Int} (h : (Lit.int .u64 x).wf = true) : 0 ≤ x ∧ x < 18446744073709551616 := by
  have h1 : IntKind.u64.min = 0 := rfl
  have h2 : IntKind.u64.max = 18446744073709551615 := rfl
  simp only [Lit.wf, Bool.and_eq_true, decide_eq_true_eq] at h
  omega
theorem wf_i64 {x : Int} (h : (Lit.int .i64 x).wf = true) : -9223372036854775808 ≤ x ∧ x < 9223372036854775808 := by
  have h1 : IntKind.i64.min = -9223372036854775808 := rfl
  have h2 : IntKind.i64.max = 9223372036854775807 := rfl
  simp only [Lit.wf, Bool.and_eq_true, decide_eq_true_eq] at h
  omega
theorem rd_bytes : Rd Try.prog 41 (Kd.slice 5 (Kd.int .u8)) (fun l => (∀ x ∈ l, (Lit.int .u8 x).wf = true) ∧ l.length * 1 ≤ 140737488351232) :=
  rd_slice Try.underlying41 (by kernel_rfl) (by kernel_rfl) (rd_int Try.underlying5)

end Go.Proofs.Ytblnclooobggnaa.Rd

namespace Go.Proofs.Ytblnclooobggnaa.Se
open Go.RowKit Go.Proofs.Ytblnclooobggnaa.L Go.Proofs.Ytblnclooobggnaa.N Go.Proofs.Ytblnclooobggnaa.A Go.Proofs.Ytblnclooobggnaa.Mc Go.Proofs.YtblnclooobggnaaW.PrintWords

theorem R_openS {k : IntKind} {e : TypeId} {l : List Nat} {w : World} {B : Nat} {v : Value} (h : (Kd.int k).R e w B (fun _ => True) v (nat l)) (hn : 0 < l.length) : ∃ g cap, v = .slice (some ⟨g, 0, none⟩) l.length cap ∧ l.length ≤ cap ∧ B ≤ g ∧ g < w.heap.size := by
  obtain ⟨g, cap, hv, hB, hg, _⟩ := Kd.R_form h (by rw [nat_length]; exact hn)
  rw [nat_length] at hv
  subst hv
  have := (Kd.R_reads' h).2.1
  exact ⟨g, cap, rfl, this, hB, hg⟩
theorem R_atS {k : IntKind} {e : TypeId} {l : List Nat} {w : World} {B g n cap : Nat} (h : (Kd.int k).R e w B (fun _ => True) (.slice (some ⟨g, 0, none⟩) n cap) (nat l)) {j : Nat} (hj : j < l.length) :
    w.cell? ⟨g, j, none⟩ = some (.int k ((l.getD j 0 : Nat) : Int)) ∧ w.frozen? ⟨g, j, none⟩ = false := by
  have hn := (Kd.R_reads' h).1
  rw [nat_length] at hn
  have := Kd.R_celln (enc := Value.int k) (0 : Int) h (j : Int) (by omega) (by omega)
  rw [Int.toNat_natCast] at this
  refine ⟨this.1.trans ?_, this.2⟩
  rw [← nat_get hj]
  simp [rdOf]
theorem R_wrS {k : IntKind} {e : TypeId} {l : List Nat} {w : World} {B g n cap : Nat} (h : (Kd.int k).R e w B (fun _ => True) (.slice (some ⟨g, 0, none⟩) n cap) (nat l)) (j x : Nat) :
    (Kd.int k).R e (w.setCell ⟨g, j, none⟩ (.int k ((x : Nat) : Int))) B (fun _ => True) (.slice (some ⟨g, 0, none⟩) n cap) (nat (l.set j x)) ∧ w.grownBy (w.setCell ⟨g, j, none⟩ (.int k ((x : Nat) : Int))) (some g) := by
  have := Kd.R_putg (enc := Value.int k) h (j : Int) ((x : Nat) : Int)
  rw [Int.toNat_natCast] at this
  refine ⟨?_, this.2⟩
  have h1 := this.1
  rwa [show (nat l).set j ((x : Nat) : Int) = nat (l.set j x) from by simp [nat]] at h1
set_option maxRecDepth 100000 in
set_option maxHeartbeats 6400000 in
theorem sealturned_walk (secret plain : List Nat) (A B : Option Addr) (ca cb : Nat) (at' cut : Int) (y : Nat) (w : World) (hA : (Kd.int .u8).C w A secret.length (nat secret)) (hca : secret.length ≤ ca) (ha : ∀ x ∈ secret, x < 256) (hB : (Kd.int .u8).C w B plain.length (nat plain)) (hb8 : ∀ x ∈ plain, x < 256) (hy : y < 256) :
    Calls Try.prog 10 #[.slice A secret.length ca, .slice B plain.length cb, .int .i64 at', .int .u8 (y : Int), .int .i64 cut] w fun e w' => e = .returned (.bool true) ∧ Below w.heap.size w w' := by
  by_cases hg0 : secret.length = 0
  · have HAl := Lib.hid (alive07_any w)
    have e0 : ((secret.length : Int) == 0) = true := beq_iff_eq.2 (by omega)
    have e0n : (secret.length == 0) = true := beq_iff_eq.2 (by omega)
    clear hA hca ha hB hb8 hy hg0
    go_enter Try.func10, Try.ntmps10
    go_wp2_with fail
    refine HAl.out.mono ?_
    rintro e w1 ⟨rfl, hb⟩
    go_wp2_with fail
    go_ret
    exact ⟨rfl, hb⟩
  have e0 : ((secret.length : Int) == 0) = false := beq_eq_false_iff_ne.2 (by omega)
  have e0n : (secret.length == 0) = false := beq_eq_false_iff_ne.2 (by omega)
  by_cases hg1 : 100 < secret.length
  · have HAl := Lib.hid (alive07_any w)
    have tg_secret : decide ((100 : Int) < (secret.length : Int)) = true := decide_eq_true (by omega)
    clear hA hca ha hB hb8 hy hg0 hg1
    go_enter Try.func10, Try.ntmps10
    go_wp2_with fail
    refine HAl.out.mono ?_
    rintro e w1 ⟨rfl, hb⟩
    go_wp2_with fail
    go_ret
    exact ⟨rfl, hb⟩
  have tg_secret : decide ((100 : Int) < (secret.length : Int)) = false := decide_eq_false (by omega)
  by_cases hg2 : 512 < plain.length
  · have HAl := Lib.hid (alive07_any w)
    have tg_plain : decide ((512 : Int) < (plain.length : Int)) = true := decide_eq_true (by omega)
    clear hA hca ha hB hb8 hy hg0 hg1 hg2
    go_enter Try.func10, Try.ntmps10
    go_wp2_with fail
    refine HAl.out.mono ?_
    rintro e w1 ⟨rfl, hb⟩
    go_wp2_with fail
    go_ret
    exact ⟨rfl, hb⟩
  have tg_plain : decide ((512 : Int) < (plain.length : Int)) = false := decide_eq_false (by omega)
  have HNw := Lib.hid (fun (side : Nat) W (hb : Below w.heap.size w W) (hs : side = 0 ∨ side = 1) => newseal_any secret A ca side W (Kd.C_below hA hb) hca ha (by omega) (by omega) hs)
  have HHl := Lib.hid (show (hideK secret).length = 16 from drvN_len _ _ _)
  have HH8 := Lib.hid (show ∀ x ∈ hideK secret, x < 256 from drvN_lt _ _ _)
  have HM8 := Lib.hid (show ∀ x ∈ markK secret, x < 256 from drvN_lt _ _ _)
  have HB := Lib.hid hB
  have HBk := Lib.hid (show 0 < plain.length → ∀ ad, B = some ad → ad.block < w.heap.size from fun h0 ad e => by
    obtain ⟨b, off, e2, hb, _⟩ := B_at hB h0
    rw [e2] at e
    injection e with e
    subst e
    exact hb)
  have HP8 := Lib.hid hb8
  have HL := Lib.hid (show plain.length ≤ 512 from by omega)
  have HY := Lib.hid hy
  generalize hideK secret = KH at *
  generalize markK secret = KM at *
  have z1 : (plain.length : Int) ≤ 512 := by omega
  have z2 : (y : Int) < 256 := by omega
  clear hA hca ha hB hb8 hy hg0 hg1 hg2
  go_enter Try.func10, Try.ntmps10
  go_wp2_with fail
  refine (HNw.out 0 w (Below.refl _ _) (.inl rfl)).mono ?_
  rintro e w2 ⟨g, p, q, rfl, hg, hp, hqq, hgq, hse, hb⟩
  have HS1 := Lib.hid hse
  have HO1 := Lib.hid (show w.heap.size ≤ g ∧ w.heap.size ≤ p ∧ w.heap.size ≤ q from ⟨hg, hp, hqq⟩)
  have HB2 := Lib.hid hb
  have HNe := Lib.hid hgq
  have HOr := Lib.hid (HS1.out.ord)
  clear hg hp hqq hgq hse hb
  go_wp2_with fail
  refine (HNw.out 1 w2 HB2.out (.inr rfl)).mono ?_
  rintro e w4 ⟨g2, p2, q2, rfl, hg, hp, hqq, hgq, hse, hb⟩
  have HT4 := Lib.hid hse
  have HS4 := Lib.hid (HS1.out.keep hb)
  have HB4 := Lib.hid (HB2.out.trans (hb.mono HB2.out.size))
  have HNe2 := Lib.hid hgq
  have HO2 := Lib.hid (show w2.heap.size ≤ g2 ∧ w2.heap.size ≤ p2 ∧ w2.heap.size ≤ q2 from ⟨hg, hp, hqq⟩)
  have HW2 := Lib.hid HB2.out.size
  clear hg hp hqq hgq hse hb HNw HS1 HB2
  go_wp2_with fail
  have hq := seal_any g p q 0 1 0 KH KM plain B cb w4 HS4.out (.inl rfl) (by decide) (by decide) (by decide) HHl.out HH8.out HM8.out HNe.out (Kd.C_below HB.out HB4.out) (fun h0 ad e => by have := HBk.out h0 ad e; have := HO1.out; omega) HL.out HP8.out
  have HQ := Lib.hid hq
  clear hq
  refine HQ.out.mono ?_
  rintro e w6 ⟨v6, rfl, hro, hse, hgr, hrr⟩
  obtain ⟨A6, c6, rfl, hc6, hC6, hf6⟩ := hro
  obtain ⟨B0, hB0, hr0⟩ := hrr
  have hl : (sealN 0 KH KM 1 plain).length = plain.length + 24 := sealN_len _ _ _ _ _
  have hs8 := sealN_lt HH8.out 0 KM 1 HP8.out
  have htn := fun i y x (hi : i ≤ 15) (hy : y ≠ 0) (hx : x = (sealN 0 KH KM 1 plain).set (plain.length + 23 - i) ((sealN 0 KH KM 1 plain).getD (plain.length + 23 - i) 0 ^^^ y)) => sealed_turned 0 KH KM 1 plain (i := i) (y := y) hi hy (x := x) hx
  obtain ⟨gx, cx, hvx, hcx, hgx, hlx⟩ := R_openS hr0 (by rw [hl]; omega)
  injection hvx with e1 e2 e3
  subst e1
  subst e3
  rw [hl] at hr0 hc6 hC6 ⊢
  have HT6 := Lib.hid (HT4.out.gr hgr (by have := HO2.out; have := HOr.out; omega) (by have := HO2.out; have := HOr.out; omega) (by have := HO2.out; have := HOr.out; omega))
  have HB6 := Lib.hid (hgr.low HB4.out HO1.out.1 HO1.out.2.2 HB4.out.size)
  have HOt := Lib.hid (HT4.out.ord)
  have HR6 := Lib.hid hr0
  have HC6 := Lib.hid hC6
  have Hc6 := Lib.hid hc6
  have HGx := Lib.hid (show w4.heap.size ≤ gx from Nat.le_trans hB0 hgx)
  have HSl := Lib.hid hl
  have HS8 := Lib.hid hs8
  have HTn := Lib.hid htn
  generalize sealN 0 KH KM 1 plain = X at *
  obtain ⟨n, hn⟩ : ∃ n, plain.length + 24 = n := ⟨_, rfl⟩
  have f0 : (plain.length : Int) + 24 = (n : Int) := by omega
  rw [hn] at HR6 HC6 Hc6 HSl ⊢
  have HN := Lib.hid (show n = plain.length + 24 ∧ n ≤ 536 from by omega)
  have f1 : (n : Int) ≤ 536 := by omega
  have f2 : (24 : Int) ≤ (n : Int) := by omega
  obtain ⟨n1, hn1⟩ : ∃ k, n - 1 = k := ⟨_, rfl⟩
  have f3 : (n : Int) - 1 = (n1 : Int) := by omega
  have HN1 := Lib.hid (show n = n1 + 1 from by omega)
  clear hse hgr hr0 hl hs8 htn hcx hgx hlx e2 hB0 hc6 hC6 hf6 hn hn1 HQ HS4 HT4
  by_cases hc0 : cut < 0
  · have s1 : decide ((0 : Int) ≤ cut) = false := decide_eq_false (by omega)
    clear hc0
    by_cases ha0 : at' < 0
    · have t1 : decide (at' < 0) = true := decide_eq_true ha0
      clear ha0
      have HQ := Lib.hid (alive07_any w6)
      go_wp2_with fail
      refine HQ.out.mono ?_
      rintro e w7 ⟨rfl, hb7⟩
      have HB7 := Lib.hid (HB6.out.trans (hb7.mono HB6.out.size))
      clear hb7
      go_wp2_with fail
      go_ret
      exact ⟨rfl, HB7.out⟩
    have t1 : decide (at' < 0) = false := decide_eq_false ha0
    by_cases ha1 : 15 < at'
    · have t2 : decide (15 < at') = true := decide_eq_true ha1
      clear ha0 ha1
      have HQ := Lib.hid (alive07_any w6)
      go_wp2_with fail
      refine HQ.out.mono ?_
      rintro e w7 ⟨rfl, hb7⟩
      have HB7 := Lib.hid (HB6.out.trans (hb7.mono HB6.out.size))
      clear hb7
      go_wp2_with fail
      go_ret
      exact ⟨rfl, HB7.out⟩
    have t2 : decide (15 < at') = false := decide_eq_false ha1
    by_cases hy0 : y = 0
    · have t3 : ((y : Int) == 0) = true := by rw [beq_iff_eq]; omega
      have t4 : (y == 0) = true := by rw [beq_iff_eq]; exact hy0
      clear ha0 ha1 hy0
      have HQ := Lib.hid (alive07_any w6)
      go_wp2_with fail
      refine HQ.out.mono ?_
      rintro e w7 ⟨rfl, hb7⟩
      have HB7 := Lib.hid (HB6.out.trans (hb7.mono HB6.out.size))
      clear hb7
      go_wp2_with fail
      go_ret
      exact ⟨rfl, HB7.out⟩
    have t3 : ((y : Int) == 0) = false := by rw [beq_eq_false_iff_ne]; omega
    have t4 : (y == 0) = false := by rw [beq_eq_false_iff_ne]; exact hy0
    obtain ⟨i, rfl⟩ : ∃ i : Nat, at' = (i : Int) := ⟨at'.toNat, by omega⟩
    obtain ⟨p, hp⟩ : ∃ p, plain.length + 23 - i = p := ⟨_, rfl⟩
    have hpn : p < X.length := by rw [HSl.out]; have := HN.out; omega
    obtain ⟨k1, k2⟩ := R_atS HR6.out (j := p) hpn
    have hx0 := getD_lt hpn HS8.out
    have htx := HTn.out i y _ (by omega) hy0 rfl
    rw [hp] at htx
    obtain ⟨x0, hx0e⟩ : ∃ x, X.getD p 0 = x := ⟨_, rfl⟩
    rw [hx0e] at k1 hx0 htx
    obtain ⟨z, hz⟩ : ∃ z, x0 ^^^ y = z := ⟨_, rfl⟩
    rw [hz] at htx
    have e1 : bits .xor .u8 (x0 : Int) (y : Int) = (z : Int) := by rw [← hz]; exact xor_u8 x0 y hx0 HY.out
    have hzl : z < 256 := by rw [← hz]; exact xor_lt8 hx0 HY.out
    have hw := R_wrS HR6.out p z
    have f4 : (n1 : Int) - (i : Int) = (p : Int) := by have := HN.out; have := HN1.out; omega
    have f5 : (0 : Int) ≤ (p : Int) := by omega
    have f6 : (p : Int) < (n : Int) := by have := HSl.out; omega
    have f7 : (i : Int) ≤ 15 := by omega
    have f8 : (0 : Int) ≤ (i : Int) := by omega
    have f9 : (n1 : Int) ≤ 535 := by have := HN1.out; have := HN.out; omega
    have HW := Lib.hid hw
    have HTx := Lib.hid htx
    have H8x := Lib.hid (set_lt (i := p) HS8.out hzl)
    clear ha0 ha1 hy0 hp hpn hx0 htx hx0e hz hzl hw
    go_wp2_with fail
    refine calls_at fun W7 hW7 => ?_
    have hw := HW.out
    have HC7 := Lib.hid (show (Kd.int .u8).C W7 (some ⟨gx, 0, none⟩) (X.set p z).length (nat (X.set p z)) from by rw [hW7]; have := (Kd.R_reads' hw.1).2.2; rwa [nat_length] at this)
    have HT7 := Lib.hid (show SE g2 p2 q2 1 KH KM 1 0 W7 from by rw [hW7]; exact HT6.out.grow hw.2 (by have := HGx.out; have := HOt.out; omega) (by have := HGx.out; have := HOt.out; omega) (by have := HGx.out; have := HOt.out; omega))
    have HB7 := Lib.hid (show Below w.heap.size w W7 from by rw [hW7]; exact HB6.out.grown hw.2 HB6.out.size (fun k hk => by injection hk with hk; have := HGx.out; have := HB4.out.size; omega))
    clear hW7 hw HW k1 k2 e1 HR6 HC6 HT6 HB6
    have hxl : (X.set p z).length = n := by rw [List.length_set]; exact HSl.out
    have hq := open_tag g2 p2 q2 1 1 0 KH KM (X.set p z) (some ⟨gx, 0, none⟩) c6 W7 HT7.out HM8.out HC7.out (by rw [hxl]; exact Hc6.out) H8x.out (by rw [hxl]; have := HN.out; omega) (by rw [hxl]; exact HN.out.2) HTx.out.2
    rw [hxl] at hq
    have HQ := Lib.hid hq
    clear hxl hq
    refine HQ.out.mono ?_
    rintro e w8 ⟨rfl, hb8⟩
    have HB8 := Lib.hid (HB7.out.trans (hb8.mono HB7.out.size))
    clear hb8 HQ HC7 HT7 HB7
    have HQ := Lib.hid (alive07_any w8)
    go_wp2_with fail
    refine HQ.out.mono ?_
    rintro e w9 ⟨rfl, hb9⟩
    have HB9 := Lib.hid (HB8.out.trans (hb9.mono HB8.out.size))
    clear hb9
    go_wp2_with fail
    go_ret
    exact ⟨rfl, HB9.out⟩
  have s1 : decide ((0 : Int) ≤ cut) = true := decide_eq_true (by omega)
  by_cases hc1 : 24 ≤ cut
  · have s2 : decide (cut < 24) = false := decide_eq_false (by omega)
    clear hc0 hc1
    by_cases ha0 : at' < 0
    · have t1 : decide (at' < 0) = true := decide_eq_true ha0
      clear ha0
      have HQ := Lib.hid (alive07_any w6)
      go_wp2_with fail
      refine HQ.out.mono ?_
      rintro e w7 ⟨rfl, hb7⟩
      have HB7 := Lib.hid (HB6.out.trans (hb7.mono HB6.out.size))
      clear hb7
      go_wp2_with fail
      go_ret
      exact ⟨rfl, HB7.out⟩
    have t1 : decide (at' < 0) = false := decide_eq_false ha0
    by_cases ha1 : 15 < at'
    · have t2 : decide (15 < at') = true := decide_eq_true ha1
      clear ha0 ha1
      have HQ := Lib.hid (alive07_any w6)
      go_wp2_with fail
      refine HQ.out.mono ?_
      rintro e w7 ⟨rfl, hb7⟩
      have HB7 := Lib.hid (HB6.out.trans (hb7.mono HB6.out.size))
      clear hb7
      go_wp2_with fail
      go_ret
      exact ⟨rfl, HB7.out⟩
    have t2 : decide (15 < at') = false := decide_eq_false ha1
    by_cases hy0 : y = 0
    · have t3 : ((y : Int) == 0) = true := by rw [beq_iff_eq]; omega
      have t4 : (y == 0) = true := by rw [beq_iff_eq]; exact hy0
      clear ha0 ha1 hy0
      have HQ := Lib.hid (alive07_any w6)
      go_wp2_with fail
      refine HQ.out.mono ?_
      rintro e w7 ⟨rfl, hb7⟩
      have HB7 := Lib.hid (HB6.out.trans (hb7.mono HB6.out.size))
      clear hb7
      go_wp2_with fail
      go_ret
      exact ⟨rfl, HB7.out⟩
    have t3 : ((y : Int) == 0) = false := by rw [beq_eq_false_iff_ne]; omega
    have t4 : (y == 0) = false := by rw [beq_eq_false_iff_ne]; exact hy0
    obtain ⟨i, rfl⟩ : ∃ i : Nat, at' = (i : Int) := ⟨at'.toNat, by omega⟩
    obtain ⟨p, hp⟩ : ∃ p, plain.length + 23 - i = p := ⟨_, rfl⟩
    have hpn : p < X.length := by rw [HSl.out]; have := HN.out; omega
    obtain ⟨k1, k2⟩ := R_atS HR6.out (j := p) hpn
    have hx0 := getD_lt hpn HS8.out
    have htx := HTn.out i y _ (by omega) hy0 rfl
    rw [hp] at htx
    obtain ⟨x0, hx0e⟩ : ∃ x, X.getD p 0 = x := ⟨_, rfl⟩
    rw [hx0e] at k1 hx0 htx
    obtain ⟨z, hz⟩ : ∃ z, x0 ^^^ y = z := ⟨_, rfl⟩
    rw [hz] at htx
    have e1 : bits .xor .u8 (x0 : Int) (y : Int) = (z : Int) := by rw [← hz]; exact xor_u8 x0 y hx0 HY.out
    have hzl : z < 256 := by rw [← hz]; exact xor_lt8 hx0 HY.out
    have hw := R_wrS HR6.out p z
    have f4 : (n1 : Int) - (i : Int) = (p : Int) := by have := HN.out; have := HN1.out; omega
    have f5 : (0 : Int) ≤ (p : Int) := by omega
    have f6 : (p : Int) < (n : Int) := by have := HSl.out; omega
    have f7 : (i : Int) ≤ 15 := by omega
    have f8 : (0 : Int) ≤ (i : Int) := by omega
    have f9 : (n1 : Int) ≤ 535 := by have := HN1.out; have := HN.out; omega
    have HW := Lib.hid hw
    have HTx := Lib.hid htx
    have H8x := Lib.hid (set_lt (i := p) HS8.out hzl)
    clear ha0 ha1 hy0 hp hpn hx0 htx hx0e hz hzl hw
    go_wp2_with fail
    refine calls_at fun W7 hW7 => ?_
    have hw := HW.out
    have HC7 := Lib.hid (show (Kd.int .u8).C W7 (some ⟨gx, 0, none⟩) (X.set p z).length (nat (X.set p z)) from by rw [hW7]; have := (Kd.R_reads' hw.1).2.2; rwa [nat_length] at this)
    have HT7 := Lib.hid (show SE g2 p2 q2 1 KH KM 1 0 W7 from by rw [hW7]; exact HT6.out.grow hw.2 (by have := HGx.out; have := HOt.out; omega) (by have := HGx.out; have := HOt.out; omega) (by have := HGx.out; have := HOt.out; omega))
    have HB7 := Lib.hid (show Below w.heap.size w W7 from by rw [hW7]; exact HB6.out.grown hw.2 HB6.out.size (fun k hk => by injection hk with hk; have := HGx.out; have := HB4.out.size; omega))
    clear hW7 hw HW k1 k2 e1 HR6 HC6 HT6 HB6
    have hxl : (X.set p z).length = n := by rw [List.length_set]; exact HSl.out
    have hq := open_tag g2 p2 q2 1 1 0 KH KM (X.set p z) (some ⟨gx, 0, none⟩) c6 W7 HT7.out HM8.out HC7.out (by rw [hxl]; exact Hc6.out) H8x.out (by rw [hxl]; have := HN.out; omega) (by rw [hxl]; exact HN.out.2) HTx.out.2
    rw [hxl] at hq
    have HQ := Lib.hid hq
    clear hxl hq
    refine HQ.out.mono ?_
    rintro e w8 ⟨rfl, hb8⟩
    have HB8 := Lib.hid (HB7.out.trans (hb8.mono HB7.out.size))
    clear hb8 HQ HC7 HT7 HB7
    have HQ := Lib.hid (alive07_any w8)
    go_wp2_with fail
    refine HQ.out.mono ?_
    rintro e w9 ⟨rfl, hb9⟩
    have HB9 := Lib.hid (HB8.out.trans (hb9.mono HB8.out.size))
    clear hb9
    go_wp2_with fail
    go_ret
    exact ⟨rfl, HB9.out⟩
  have s2 : decide (cut < 24) = true := decide_eq_true (by omega)
  obtain ⟨m, rfl⟩ : ∃ m : Nat, cut = (m : Int) := ⟨cut.toNat, by omega⟩
  obtain ⟨hct, _⟩ := cutT (some ⟨gx, 0, none⟩) n c6 (m : Int) m rfl (by have := HN.out; omega) Hc6.out
  have hml : (X.take m).length = m := by rw [List.length_take, HSl.out]; have := HN.out; omega
  have hq := open_short g2 p2 q2 1 1 0 KH KM (X.take m) (some ⟨gx, 0, none⟩) c6 w6 HT6.out (by rw [hml]; omega)
  rw [hml] at hq
  have HQ := Lib.hid hq
  have s3 : (0 : Int) ≤ (m : Int) := by omega
  have s4 : (m : Int) < 24 := by omega
  clear hc0 hc1 hml hq
  go_wp2_with fail
  refine HQ.out.mono ?_
  rintro e w7 ⟨rfl, hw⟩
  rw [hw]
  clear hw w7 HQ hct s3 s4 s1 s2
  by_cases ha0 : at' < 0
  · have t1 : decide (at' < 0) = true := decide_eq_true ha0
    clear ha0
    have HQ := Lib.hid (alive07_any w6)
    go_wp2_with fail
    refine HQ.out.mono ?_
    rintro e w7 ⟨rfl, hb7⟩
    have HB7 := Lib.hid (HB6.out.trans (hb7.mono HB6.out.size))
    clear hb7
    go_wp2_with fail
    go_ret
    exact ⟨rfl, HB7.out⟩
  have t1 : decide (at' < 0) = false := decide_eq_false ha0
  by_cases ha1 : 15 < at'
  · have t2 : decide (15 < at') = true := decide_eq_true ha1
    clear ha0 ha1
    have HQ := Lib.hid (alive07_any w6)
    go_wp2_with fail
    refine HQ.out.mono ?_
    rintro e w7 ⟨rfl, hb7⟩
    have HB7 := Lib.hid (HB6.out.trans (hb7.mono HB6.out.size))
    clear hb7
    go_wp2_with fail
    go_ret
    exact ⟨rfl, HB7.out⟩
  have t2 : decide (15 < at') = false := decide_eq_false ha1
  by_cases hy0 : y = 0
  · have t3 : ((y : Int) == 0) = true := by rw [beq_iff_eq]; omega
    have t4 : (y == 0) = true := by rw [beq_iff_eq]; exact hy0
    clear ha0 ha1 hy0
    have HQ := Lib.hid (alive07_any w6)
    go_wp2_with fail
    refine HQ.out.mono ?_
    rintro e w7 ⟨rfl, hb7⟩
    have HB7 := Lib.hid (HB6.out.trans (hb7.mono HB6.out.size))
    clear hb7
    go_wp2_with fail
    go_ret
    exact ⟨rfl, HB7.out⟩
  have t3 : ((y : Int) == 0) = false := by rw [beq_eq_false_iff_ne]; omega
  have t4 : (y == 0) = false := by rw [beq_eq_false_iff_ne]; exact hy0
  obtain ⟨i, rfl⟩ : ∃ i : Nat, at' = (i : Int) := ⟨at'.toNat, by omega⟩
  obtain ⟨p, hp⟩ : ∃ p, plain.length + 23 - i = p := ⟨_, rfl⟩
  have hpn : p < X.length := by rw [HSl.out]; have := HN.out; omega
  obtain ⟨k1, k2⟩ := R_atS HR6.out (j := p) hpn
  have hx0 := getD_lt hpn HS8.out
  have htx := HTn.out i y _ (by omega) hy0 rfl
  rw [hp] at htx
  obtain ⟨x0, hx0e⟩ : ∃ x, X.getD p 0 = x := ⟨_, rfl⟩
  rw [hx0e] at k1 hx0 htx
  obtain ⟨z, hz⟩ : ∃ z, x0 ^^^ y = z := ⟨_, rfl⟩
  rw [hz] at htx
  have e1 : bits .xor .u8 (x0 : Int) (y : Int) = (z : Int) := by rw [← hz]; exact xor_u8 x0 y hx0 HY.out
  have hzl : z < 256 := by rw [← hz]; exact xor_lt8 hx0 HY.out
  have hw := R_wrS HR6.out p z
  have f4 : (n1 : Int) - (i : Int) = (p : Int) := by have := HN.out; have := HN1.out; omega
  have f5 : (0 : Int) ≤ (p : Int) := by omega
  have f6 : (p : Int) < (n : Int) := by have := HSl.out; omega
  have f7 : (i : Int) ≤ 15 := by omega
  have f8 : (0 : Int) ≤ (i : Int) := by omega
  have f9 : (n1 : Int) ≤ 535 := by have := HN1.out; have := HN.out; omega
  have HW := Lib.hid hw
  have HTx := Lib.hid htx
  have H8x := Lib.hid (set_lt (i := p) HS8.out hzl)
  clear ha0 ha1 hy0 hp hpn hx0 htx hx0e hz hzl hw
  go_wp2_with fail
  refine calls_at fun W7 hW7 => ?_
  have hw := HW.out
  have HC7 := Lib.hid (show (Kd.int .u8).C W7 (some ⟨gx, 0, none⟩) (X.set p z).length (nat (X.set p z)) from by rw [hW7]; have := (Kd.R_reads' hw.1).2.2; rwa [nat_length] at this)
  have HT7 := Lib.hid (show SE g2 p2 q2 1 KH KM 1 0 W7 from by rw [hW7]; exact HT6.out.grow hw.2 (by have := HGx.out; have := HOt.out; omega) (by have := HGx.out; have := HOt.out; omega) (by have := HGx.out; have := HOt.out; omega))
  have HB7 := Lib.hid (show Below w.heap.size w W7 from by rw [hW7]; exact HB6.out.grown hw.2 HB6.out.size (fun k hk => by injection hk with hk; have := HGx.out; have := HB4.out.size; omega))
  clear hW7 hw HW k1 k2 e1 HR6 HC6 HT6 HB6
  have hxl : (X.set p z).length = n := by rw [List.length_set]; exact HSl.out
  have hq := open_tag g2 p2 q2 1 1 0 KH KM (X.set p z) (some ⟨gx, 0, none⟩) c6 W7 HT7.out HM8.out HC7.out (by rw [hxl]; exact Hc6.out) H8x.out (by rw [hxl]; have := HN.out; omega) (by rw [hxl]; exact HN.out.2) HTx.out.2
  rw [hxl] at hq
  have HQ := Lib.hid hq
  clear hxl hq
  refine HQ.out.mono ?_
  rintro e w8 ⟨rfl, hb8⟩
  have HB8 := Lib.hid (HB7.out.trans (hb8.mono HB7.out.size))
  clear hb8 HQ HC7 HT7 HB7
  have HQ := Lib.hid (alive07_any w8)
  go_wp2_with fail
  refine HQ.out.mono ?_
  rintro e w9 ⟨rfl, hb9⟩
  have HB9 := Lib.hid (HB8.out.trans (hb9.mono HB8.out.size))
  clear hb9
  go_wp2_with fail
  go_ret
  exact ⟨rfl, HB9.out⟩

theorem sealturned_int (secret : List Int) (plain : List Int) (A B : Option Addr) (ca cb : Nat) (at' y cut : Int) (w : World) (hA : (Kd.int .u8).C w A secret.length secret) (hca : secret.length ≤ ca) (ha : ∀ x ∈ secret, 0 ≤ x ∧ x < 256) (hB : (Kd.int .u8).C w B plain.length plain) (hb8 : ∀ x ∈ plain, 0 ≤ x ∧ x < 256) (hy : 0 ≤ y ∧ y < 256) :
    Calls Try.prog 10 #[.slice A secret.length ca, .slice B plain.length cb, .int .i64 at', .int .u8 y, .int .i64 cut] w fun e w' => e = .returned (.bool true) ∧ Below w.heap.size w w' := by
  obtain ⟨m1, e1, k1, l1, _⟩ := C_nat (m := 256) hA ha
  obtain ⟨m2, e2, k2, l2, _⟩ := C_nat (m := 256) hB hb8
  obtain ⟨a, rfl⟩ : ∃ k : Nat, y = (k : Int) := ⟨y.toNat, by omega⟩
  rw [← e1, ← e2]
  exact sealturned_walk m1 m2 A B ca cb at' cut a w k1 (by omega) l1 k2 l2 (by omega)
end Go.Proofs.Ytblnclooobggnaa.Se
