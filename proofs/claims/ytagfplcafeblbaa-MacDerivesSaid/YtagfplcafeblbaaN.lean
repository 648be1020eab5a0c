/-
  Bytes as numbers from nothing on: rows that are read, bits.
-/
import Derived.Test.YtagfplcafeblbaaL
namespace Go.Proofs.Ytagfplcafeblbaa.N
open Go.RowKit Go.Proofs.Ytagfplcafeblbaa.L Go.Proofs.YtagfplcafeblbaaW.PrintWords

/-- numbers, as the machine has them -/
def nat (l : List Nat) : List Int := l.map (fun x : Nat => (x : Int))
theorem nat_length (l : List Nat) : (nat l).length = l.length := by simp [nat]
theorem nat_nil : nat [] = [] := rfl
theorem nat_app (a b : List Nat) : nat (a ++ b) = nat a ++ nat b := by simp [nat]
theorem nat_get {l : List Nat} {j : Nat} (h : j < l.length) : (nat l).getD j 0 = ((l.getD j 0 : Nat) : Int) := by
  unfold nat
  rw [List.getD_eq_getElem?_getD, List.getElem?_map, List.getD_eq_getElem?_getD, List.getElem?_eq_getElem h]
  rfl
theorem nat_snoc {l : List Nat} {j : Nat} (h : j < l.length) : nat (l.take j) ++ [((l.getD j 0 : Nat) : Int)] = nat (l.take (j + 1)) := by
  rw [List.take_succ_eq_append_getElem h, nat_app, List.getD_eq_getElem?_getD, List.getElem?_eq_getElem h]
  rfl
theorem nat_inj {a b : List Nat} (h : nat a = nat b) : a = b := by
  unfold nat at h
  exact List.map_inj_right (fun x y e => by omega) |>.1 h
theorem nat_take (l : List Nat) (n : Nat) : nat (l.take n) = (nat l).take n := by simp [nat, List.map_take]
theorem nat_drop (l : List Nat) (n : Nat) : nat (l.drop n) = (nat l).drop n := by simp [nat, List.map_drop]
theorem B_open {w : World} {k : IntKind} {A : Option Addr} {l : List Nat} (h : (Kd.int k).C w A l.length (nat l)) :
    l.length ≤ 9223372036854775807 ∧ (l = [] ∨ ∃ b off, A = some ⟨b, off, none⟩ ∧ b < w.heap.size ∧ ∀ j, j < l.length → w.cell? ⟨b, off + j, none⟩ = some (.int k (l.getD j 0 : Nat))) := by
  rw [← nat_length] at h ⊢
  obtain ⟨h1, h2⟩ := C_open h
  refine ⟨h1, ?_⟩
  rcases h2 with h2 | ⟨b, off, e, hb, hc⟩
  · exact .inl (by simpa [nat] using h2)
  · refine .inr ⟨b, off, e, hb, fun j hj => ?_⟩
    have := hc j hj
    rwa [nat_get (by rwa [nat_length] at hj)] at this
/-- a row that is not empty, laid open -/
theorem B_at {w : World} {k : IntKind} {A : Option Addr} {l : List Nat} (h : (Kd.int k).C w A l.length (nat l)) (h0 : 0 < l.length) :
    ∃ b off, A = some ⟨b, off, none⟩ ∧ b < w.heap.size ∧ ∀ j, j < l.length → w.cell? ⟨b, off + j, none⟩ = some (.int k (l.getD j 0 : Nat)) := by
  rcases (B_open h).2 with e | h
  · rw [e] at h0; simp at h0
  · exact h
def toN (l : List Int) : List Nat := l.map Int.toNat
theorem toN_length (l : List Int) : (toN l).length = l.length := by simp [toN]
theorem nat_toN {l : List Int} (h : ∀ x ∈ l, 0 ≤ x) : nat (toN l) = l := by
  unfold nat toN
  rw [List.map_map]
  refine (List.map_congr_left (fun x hx => ?_)).trans (List.map_id l)
  show ((x.toNat : Nat) : Int) = x
  have := h x hx
  omega
theorem toN_lt {l : List Int} {m : Nat} (h : ∀ x ∈ l, 0 ≤ x ∧ x < m) : ∀ x ∈ toN l, x < m := by
  intro x hx
  obtain ⟨y, hy, rfl⟩ := List.mem_map.1 hx
  have := h y hy
  omega
theorem C_nat {w : World} {k : IntKind} {A : Option Addr} {l : List Int} {m : Nat} (hC : (Kd.int k).C w A l.length l) (h : ∀ x ∈ l, 0 ≤ x ∧ x < m) : ∃ n : List Nat, n.length = l.length ∧ (Kd.int k).C w A n.length (nat n) ∧ (∀ x ∈ n, x < m) ∧ l = nat n :=
  ⟨toN l, toN_length l, by rw [nat_toN (fun x hx => (h x hx).1), toN_length]; exact hC, toN_lt h, (nat_toN (fun x hx => (h x hx).1)).symm⟩
theorem getD_lt {l : List Nat} {m j : Nat} (h : j < l.length) (hl : ∀ x ∈ l, x < m) : l.getD j 0 < m := hl _ (by rw [List.getD_eq_getElem?_getD, List.getElem?_eq_getElem h]; simp)
theorem getD_lt0 {l : List Nat} {m : Nat} (h0 : 0 < m) (j : Nat) (hl : ∀ x ∈ l, x < m) : l.getD j 0 < m := by
  by_cases h : j < l.length
  · exact getD_lt h hl
  · rw [List.getD_eq_getElem?_getD, List.getElem?_eq_none (by omega)]
    exact h0
theorem set_lt {l : List Nat} {m i x : Nat} (hl : ∀ y ∈ l, y < m) (hx : x < m) : ∀ y ∈ l.set i x, y < m := by
  intro y hy
  rcases List.mem_or_eq_of_mem_set hy with h | h
  · exact hl y h
  · exact h ▸ hx
theorem take_lt {l : List Nat} {m : Nat} (n : Nat) (hl : ∀ y ∈ l, y < m) : ∀ y ∈ l.take n, y < m := fun y hy => hl y (List.mem_of_mem_take hy)
theorem drop_lt {l : List Nat} {m : Nat} (n : Nat) (hl : ∀ y ∈ l, y < m) : ∀ y ∈ l.drop n, y < m := fun y hy => hl y (List.mem_of_mem_drop hy)
theorem app_lt {a b : List Nat} {m : Nat} (ha : ∀ y ∈ a, y < m) (hb : ∀ y ∈ b, y < m) : ∀ y ∈ a ++ b, y < m := fun y hy => (List.mem_append.1 hy).elim (ha y) (hb y)
/-! bits of numbers from nothing on -/
theorem xor_nat (k : IntKind) (j : Nat) (hj : j ≤ k.bits) (hk : ∀ n : Int, 0 ≤ n → n < 2 ^ j → k.wrap n = n) (a b : Nat) (ha : a < 2 ^ j) (hb : b < 2 ^ j) : bits .xor k a b = ((a ^^^ b : Nat) : Int) := by
  have hp : 2 ^ j ≤ 2 ^ k.bits := Nat.pow_le_pow_right (by decide) hj
  have ha' : a % 2 ^ k.bits = a := Nat.mod_eq_of_lt (Nat.lt_of_lt_of_le ha hp)
  have hb' : b % 2 ^ k.bits = b := Nat.mod_eq_of_lt (Nat.lt_of_lt_of_le hb hp)
  simp only [bits, BitVec.ofInt_natCast, BitVec.toNat_xor, BitVec.toNat_ofNat, ha', hb']
  have hx : a ^^^ b < 2 ^ j := Nat.xor_lt_two_pow ha hb
  exact hk _ (by omega) (by exact_mod_cast hx)
theorem or_nat (k : IntKind) (j : Nat) (hj : j ≤ k.bits) (hk : ∀ n : Int, 0 ≤ n → n < 2 ^ j → k.wrap n = n) (a b : Nat) (ha : a < 2 ^ j) (hb : b < 2 ^ j) : bits .or k a b = ((a ||| b : Nat) : Int) := by
  have hp : 2 ^ j ≤ 2 ^ k.bits := Nat.pow_le_pow_right (by decide) hj
  have ha' : a % 2 ^ k.bits = a := Nat.mod_eq_of_lt (Nat.lt_of_lt_of_le ha hp)
  have hb' : b % 2 ^ k.bits = b := Nat.mod_eq_of_lt (Nat.lt_of_lt_of_le hb hp)
  simp only [bits, BitVec.ofInt_natCast, BitVec.toNat_or, BitVec.toNat_ofNat, ha', hb']
  have hx : a ||| b < 2 ^ j := Nat.or_lt_two_pow ha hb
  exact hk _ (by omega) (by exact_mod_cast hx)
theorem and_nat (k : IntKind) (j : Nat) (hj : j ≤ k.bits) (hk : ∀ n : Int, 0 ≤ n → n < 2 ^ j → k.wrap n = n) (a b : Nat) (ha : a < 2 ^ j) (hb : b < 2 ^ j) : bits .and k a b = ((a &&& b : Nat) : Int) := by
  have hp : 2 ^ j ≤ 2 ^ k.bits := Nat.pow_le_pow_right (by decide) hj
  have ha' : a % 2 ^ k.bits = a := Nat.mod_eq_of_lt (Nat.lt_of_lt_of_le ha hp)
  have hb' : b % 2 ^ k.bits = b := Nat.mod_eq_of_lt (Nat.lt_of_lt_of_le hb hp)
  simp only [bits, BitVec.ofInt_natCast, BitVec.toNat_and, BitVec.toNat_ofNat, ha', hb']
  have hx : a &&& b < 2 ^ j := Nat.and_lt_two_pow a hb
  exact hk _ (by omega) (by exact_mod_cast hx)
theorem xor_u8 (a b : Nat) (ha : a < 256) (hb : b < 256) : bits .xor .u8 (a : Int) (b : Int) = ((a ^^^ b : Nat) : Int) := xor_nat .u8 8 (by decide) (fun n h0 h1 => wraps_u8 n h0 h1) a b ha hb
theorem or_u8 (a b : Nat) (ha : a < 256) (hb : b < 256) : bits .or .u8 (a : Int) (b : Int) = ((a ||| b : Nat) : Int) := or_nat .u8 8 (by decide) (fun n h0 h1 => wraps_u8 n h0 h1) a b ha hb
theorem and_u8 (a b : Nat) (ha : a < 256) (hb : b < 256) : bits .and .u8 (a : Int) (b : Int) = ((a &&& b : Nat) : Int) := and_nat .u8 8 (by decide) (fun n h0 h1 => wraps_u8 n h0 h1) a b ha hb
theorem xor_u32 (a b : Nat) (ha : a < 4294967296) (hb : b < 4294967296) : bits .xor .u32 (a : Int) (b : Int) = ((a ^^^ b : Nat) : Int) := xor_nat .u32 32 (by decide) (fun n h0 h1 => wraps_u32 n h0 h1) a b ha hb
theorem or_u32 (a b : Nat) (ha : a < 4294967296) (hb : b < 4294967296) : bits .or .u32 (a : Int) (b : Int) = ((a ||| b : Nat) : Int) := or_nat .u32 32 (by decide) (fun n h0 h1 => wraps_u32 n h0 h1) a b ha hb
theorem and_u32 (a b : Nat) (ha : a < 4294967296) (hb : b < 4294967296) : bits .and .u32 (a : Int) (b : Int) = ((a &&& b : Nat) : Int) := and_nat .u32 32 (by decide) (fun n h0 h1 => wraps_u32 n h0 h1) a b ha hb
theorem xor_lt32 {a b : Nat} (ha : a < 4294967296) (hb : b < 4294967296) : a ^^^ b < 4294967296 := Nat.xor_lt_two_pow (n := 32) ha hb
theorem or_lt32 {a b : Nat} (ha : a < 4294967296) (hb : b < 4294967296) : a ||| b < 4294967296 := Nat.or_lt_two_pow (n := 32) ha hb
theorem and_lt32 {a b : Nat} (hb : b < 4294967296) : a &&& b < 4294967296 := Nat.and_lt_two_pow (n := 32) a hb
theorem xor_lt8 {a b : Nat} (ha : a < 256) (hb : b < 256) : a ^^^ b < 256 := Nat.xor_lt_two_pow (n := 8) ha hb
/-! a list, filled up to i -/
def fl (l : List Nat) (i : Nat) : List Nat := l.take i ++ List.replicate (l.length - i) 0
theorem fl_length (l : List Nat) {i : Nat} (h : i ≤ l.length) : (fl l i).length = l.length := by simp [fl]; omega
theorem fl_zero (l : List Nat) : fl l 0 = List.replicate l.length 0 := by simp [fl]
theorem fl_all (l : List Nat) : fl l l.length = l := by simp [fl]
theorem fl_step {l : List Nat} {i : Nat} (h : i < l.length) : (fl l i).set i (l.getD i 0) = fl l (i + 1) := by
  unfold fl
  have h1 : (l.take i).length = i := by simp; omega
  rw [List.set_append_right _ _ (by omega), h1, Nat.sub_self, show l.length - i = (l.length - (i + 1)) + 1 from by omega, List.replicate_succ, List.set_cons_zero, List.take_succ_eq_append_getElem h, List.getD_eq_getElem?_getD, List.getElem?_eq_getElem h]
  simp only [Option.getD_some, List.append_assoc, List.cons_append, List.nil_append]
/-- a list that takes another one's place, up to i -/
def fld (new old : List Nat) (i : Nat) : List Nat := new.take i ++ old.drop i
theorem fld_zero (new old : List Nat) : fld new old 0 = old := by simp [fld]
theorem fld_all {new old : List Nat} (h : new.length = old.length) : fld new old new.length = new := by
  unfold fld
  rw [List.take_length, h, List.drop_length, List.append_nil]
theorem fld_length {new old : List Nat} (h : new.length = old.length) {i : Nat} (hi : i ≤ new.length) : (fld new old i).length = old.length := by simp [fld]; omega
theorem fld_step {new old : List Nat} (h : new.length = old.length) {i : Nat} (hi : i < new.length) : (fld new old i).set i (new.getD i 0) = fld new old (i + 1) := by
  unfold fld
  have h1 : (new.take i).length = i := by simp; omega
  rw [List.set_append_right _ _ (by omega), h1, Nat.sub_self, List.drop_eq_getElem_cons (by omega), List.set_cons_zero, List.take_succ_eq_append_getElem hi, List.getD_eq_getElem?_getD, List.getElem?_eq_getElem hi]
  simp only [Option.getD_some, List.append_assoc, List.cons_append, List.nil_append]
theorem fld_get {new old : List Nat} {i : Nat} (h : new.length = old.length) (hi : i < new.length) : (fld new old i).getD i 0 = old.getD i 0 := by
  unfold fld
  have h1 : (new.take i).length = i := by simp; omega
  rw [List.getD_eq_getElem?_getD, List.getElem?_append_right (by omega), h1, Nat.sub_self, List.getElem?_drop, Nat.add_zero, List.getD_eq_getElem?_getD]
/-! an array in memory, known whole -/
def arr (k : IntKind) (l : List Nat) : Array Value := (l.map (fun x : Nat => Value.int k (x : Int))).toArray
theorem arr_size (k : IntKind) (l : List Nat) : (arr k l).size = l.length := by simp [arr]
theorem arr_one (k : IntKind) (l : List Nat) : (arr k l).all (·.oneCell') = true := by
  unfold arr
  rw [List.all_toArray, List.all_map]
  exact List.all_eq_true.2 (fun x _ => rfl)
def AB (k : IntKind) (t : TypeId) (b : Nat) (l : List Nat) (w : World) : Prop := w.heap[b]? = some (.cells (arr k l) t (0, 0))
theorem AB.lt {k : IntKind} {t : TypeId} {b : Nat} {l : List Nat} {w : World} (h : AB k t b l w) : b < w.heap.size := blk_lt h
theorem AB.cell {k : IntKind} {t : TypeId} {b : Nat} {l : List Nat} {w : World} (h : AB k t b l w) {i : Nat} (hi : i < l.length) : w.cell? ⟨b, i, none⟩ = some (.int k (l.getD i 0 : Nat)) := by
  rw [blk_cell h]
  simp only [arr, List.getElem?_toArray, List.getElem?_map]
  rw [List.getD_eq_getElem?_getD, List.getElem?_eq_getElem hi]
  rfl
theorem AB.fz {k : IntKind} {t : TypeId} {b : Nat} {l : List Nat} {w : World} (h : AB k t b l w) (i : Nat) : w.frozen? ⟨b, i, none⟩ = false := blk_frozen h i
theorem AB.set {k : IntKind} {t : TypeId} {b : Nat} {l : List Nat} {w : World} (h : AB k t b l w) (i x : Nat) : AB k t b (l.set i x) (w.setCell ⟨b, i, none⟩ (.int k (x : Nat))) := by
  unfold AB
  rw [blk_set h i]
  simp [arr, List.map_set]
theorem AB.keep {k : IntKind} {t : TypeId} {b : Nat} {l : List Nat} {w w1 : World} (h : AB k t b l w) (hm : w1.heap[b]? = w.heap[b]?) : AB k t b l w1 := hm.trans h
theorem AB.below {k : IntKind} {t : TypeId} {b n : Nat} {l : List Nat} {w w1 : World} (h : AB k t b l w) (hb : b < n) (hw : Below n w w1) : AB k t b l w1 := (hw.block b hb).trans h
theorem AB.other {k : IntKind} {t : TypeId} {b c i : Nat} {l : List Nat} {w : World} {v : Value} (h : AB k t b l w) (hne : b ≠ c) : AB k t b l (w.setCell ⟨c, i, none⟩ v) := by
  unfold AB
  rw [Below.heap_setCell _ _ _ _ (by exact hne)]
  exact h
theorem AB.mk (w : World) (k : IntKind) (t : TypeId) (l : List Nat) : AB k t w.heap.size l (w.alloc (.cells (arr k l) t)) := heap_alloc_new w _
theorem AB.load {P : Program} {k : IntKind} {t e : TypeId} {b n : Nat} {l : List Nat} {w : World} (h : AB k t b l w) (hu : P.underlying t = some (.array n e)) (hi : (P.info? t).map (·.size) = some l.length) : (loadVar t ⟨b, 0, none⟩).run P w = .ok (.agg (arr k l)) w :=
  run_loadVar_row _ _ t t (arr k l) (0, 0) _ h hu rfl (by rw [arr_size]; exact hi)
end Go.Proofs.Ytagfplcafeblbaa.N
