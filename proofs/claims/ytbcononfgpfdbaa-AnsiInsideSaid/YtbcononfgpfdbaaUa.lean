/-
  ansi: in plain Lean: a parser's state, and what comes of points.
-/
import Derived.Test.YtbcononfgpfdbaaNq
import Derived.Laws.Cover4
namespace Go.Proofs.Ytbcononfgpfdbaa.An
open Go.RowKit Go.Proofs.Ytbcononfgpfdbaa.L Go.Proofs.Ytbcononfgpfdbaa.N

/-- what a parser has in mind -/
structure St where
  st : Nat
  pr : Nat
  it : Nat
  par : List Nat
  came : Bool
  gone : Bool
  marked : Bool
  text : List Nat
/-- an event: kind, point, private, between, final, numbers, text -/
abbrev Ev := Int × Int × Int × Int × Int × List Int × ByteArray
def enS (st : Nat) : St := ⟨st, 0, 0, [], false, false, false, []⟩
def endE (S : St) (kind fin : Nat) (t : ByteArray) : List Ev := if S.gone then [] else [((kind : Int), 0, (S.pr : Int), (S.it : Int), (fin : Int), nat S.par, t)]
def inS (S : St) (c : Nat) : St := if S.it ≠ 0 then { S with gone := true } else { S with it := c }
def escO (S : St) : Prop := S.it = 0 ∧ S.gone = false
instance (S : St) : Decidable (escO S) := by unfold escO; infer_instance
def escS (S : St) (c : Nat) : St × List Ev :=
  if c < 48 then (inS S c, [])
  else if c = 91 ∧ escO S then (enS 2, [])
  else if c = 93 ∧ escO S then (enS 3, [])
  else (enS 0, endE S 3 c .empty)
def par0 (l : List Nat) : List Nat := if l.length = 0 then [0] else l
def digN (l : List Nat) (c : Nat) : List Nat := (par0 l).set ((par0 l).length - 1) (min ((par0 l).getD ((par0 l).length - 1) 0 * 10 + (c - 48)) 9999)
def digS (S : St) (c : Nat) : St := { S with par := digN S.par c }
def nxtS (S : St) : St := { S with gone := S.gone || decide (16 < (par0 S.par ++ [0]).length), par := (par0 S.par ++ [0]).take (min (par0 S.par ++ [0]).length 16) }
def conS (S0 : St) (c : Nat) : St × List Ev :=
  let S := { S0 with came := true }
  if c < 48 then (inS S c, [])
  else if 64 ≤ c then (enS 0, endE S 4 c .empty)
  else if c ≤ 57 ∧ S.it = 0 then (digS S c, [])
  else if c = 59 ∧ S.it = 0 then (nxtS S, [])
  else if 60 ≤ c ∧ S0.came = false then ({ S with pr := c }, [])
  else ({ S with gone := true }, [])
structure OK (S : St) : Prop where
  val : ∀ x ∈ S.par, x ≤ 9999
  len : S.par.length ≤ 16
  txt : S.text.length ≤ 600
  st : S.st ≤ 3
theorem OK_en {st : Nat} (h : st ≤ 3) : OK (enS st) := ⟨(fun x hx => by cases hx), Nat.zero_le _, Nat.zero_le _, h⟩
theorem OK_in {S : St} (h : OK S) (c : Nat) : OK (inS S c) := by
  unfold inS
  split <;> exact ⟨h.val, h.len, h.txt, h.st⟩
theorem par0_len {l : List Nat} (h : l.length ≤ 16) : 1 ≤ (par0 l).length ∧ (par0 l).length ≤ 16 := by
  unfold par0
  split
  · decide
  · omega
theorem par0_val {l : List Nat} (h : ∀ x ∈ l, x ≤ 9999) : ∀ x ∈ par0 l, x ≤ 9999 := by
  unfold par0
  split
  · intro x hx; rw [List.mem_singleton.1 hx]; decide
  · exact h
theorem OK_dig {S : St} (h : OK S) (c : Nat) : OK (digS S c) := by
  refine ⟨fun x hx => ?_, ?_, h.txt, h.st⟩
  · rcases List.mem_or_eq_of_mem_set (show x ∈ (par0 S.par).set _ _ from hx) with h1 | h1
    · exact par0_val h.val x h1
    · rw [h1]; exact Nat.min_le_right _ _
  · show ((par0 S.par).set _ _).length ≤ 16
    rw [List.length_set]
    exact (par0_len h.len).2
theorem OK_nxt {S : St} (h : OK S) : OK (nxtS S) := by
  refine ⟨fun x hx => ?_, ?_, h.txt, h.st⟩
  · have h1 := List.mem_of_mem_take (show x ∈ (par0 S.par ++ [0]).take _ from hx)
    rcases List.mem_append.1 h1 with h2 | h2
    · exact par0_val h.val x h2
    · rw [List.mem_singleton.1 h2]; decide
  · show ((par0 S.par ++ [0]).take _).length ≤ 16
    rw [List.length_take]
    omega
/-- a point, where no text of the system is open -/
def takN (S : St) (r : Nat) : St × List Ev :=
  if r = 24 ∨ r = 26 then (enS 0, [])
  else if r = 127 then (S, [])
  else if r = 27 then (enS 1, [])
  else if r < 32 then (S, [(2, (r : Int), 0, 0, 0, [], .empty)])
  else if S.st = 0 ∨ 128 ≤ r then (enS 0, [(1, (r : Int), 0, 0, 0, [], .empty)])
  else if S.st = 1 then escS S r
  else conS S r
def telS (S : St) : St × List Ev := (enS 0, endE S 5 0 (runesBytes (nat S.text)))
def opS (S : St) (r : Nat) : St × List Ev :=
  if r = 7 then telS S
  else if r = 27 then ({ S with marked := true }, [])
  else if r < 32 then (S, [])
  else if S.marked = true ∧ r = 92 then telS S
  else if S.marked = true then takN (enS 1) r
  else if S.text.length < 600 then ({ S with text := S.text ++ [r] }, [])
  else ({ S with gone := true }, [])
def takS (S : St) (r : Nat) : St × List Ev :=
  if r = 24 ∨ r = 26 then (enS 0, [])
  else if r = 127 then (S, [])
  else if S.st = 3 then opS S r
  else takN S r
/-- what may be a point -/
def okP (r : Int) : Bool := !(decide (r < 0) || decide (1114111 < r) || (decide (55296 ≤ r) && decide (r ≤ 57343)))
def stepS (S : St) (r : Int) : St × List Ev := if okP r then takS S r.toNat else (S, [])
def runS (S : St) : List Int → St × List Ev
  | [] => (S, [])
  | r :: l => ((runS (stepS S r).1 l).1, (stepS S r).2 ++ (runS (stepS S r).1 l).2)
theorem runS_cons (S : St) (r : Int) (l : List Int) : runS S (r :: l) = ((runS (stepS S r).1 l).1, (stepS S r).2 ++ (runS (stepS S r).1 l).2) := by rw [runS]
theorem runS_app (S : St) : ∀ (l m : List Int), runS S (l ++ m) = ((runS (runS S l).1 m).1, (runS S l).2 ++ (runS (runS S l).1 m).2)
  | [], m => by simp [runS]
  | r :: l, m => by
    rw [List.cons_append, runS_cons, runS_app (stepS S r).1 l m, runS_cons]
    simp [List.append_assoc]
theorem runS_snoc (S : St) (l : List Int) (r : Int) : runS S (l ++ [r]) = ((stepS (runS S l).1 r).1, (runS S l).2 ++ (stepS (runS S l).1 r).2) := by
  rw [runS_app, runS_cons]
  simp [runS]
end Go.Proofs.Ytbcononfgpfdbaa.An
