/-
  No cell of these rows narrows 'for every input' (looked for: loops, veiled, ifaces, maps, wideKeys, modest, calm, conditions, laid).
  DERIVED. THE GIVEN ROWS OF THIS SEAT. 12 by the template 'for every input the law returns true; each argument reads behind the call as it read before'; 0 by the template 'total and deterministic' (their statements: YtbcononfgpfdbaaTotals.lean).
  GIVEN WITH THE SEED: the statements are not yours to turn. If you find one false, say at which input.
  Laid BY PROGRAM, IN A SANDBOX (cutbox-rows.mjs): the forced cells as the released guide's own fill.sh prints them over the translation f69329001a6dada1… (all of the seat's roots in one cut). By AI agents, Wed Nov 11 2026. No macro, syntax, notation, axiom, sorry.
-/
import Derived.Test.YtbcononfgpfdbaaChecked
import GoSem.Claim
import GoSem.ClaimJoined
import GoSem.ClaimMapViews
import Derived.JoinedTies
import Derived.KernelRfl
namespace Go.Proofs.Ytbcononfgpfdbaa
/- THE CELL 'sum', in the pinned program and in every row, IS THE sha256 OF THE DUMP (.gsa) THAT YtbcononfgpfdbaaProg.lean LOADS. Nothing in Lean hashes anything: it is a label: what it is worth is what the hold of that sum in a sandbox is worth. -/
noncomputable def Try.pinned : Pinned := { name := "ytbcononfgpfdbaa", sum := "f69329001a6dada182a46603854678605b842ac503abac62070c21f52261a983", checked := Try.checked }
namespace Rows
def none {H : Type} : Left H := { results := [], args := [] }

/-- 'longlinelaw27.DrrFair': WHATEVER THE INPUT: true; the input reads as it did. -/
def drrFairSpec : ChangeSpec := { name := "drrFair", fn := fun _ => fun
  | [d1, d2, d3, d4] => { results := [.lit (.bool true)], args := [d1, d2, d3, d4] }
  | _ => none }
def drrFairRow : OpenClaim := { program := "ytbcononfgpfdbaa", sum := "f69329001a6dada182a46603854678605b842ac503abac62070c21f52261a983", func := "longline/longlinelaw27.DrrFair", spec := "drrFair", unfollowed := true, recurses := true, apart := false }
def DrrFairSaid : Prop := drrFairRow.holds Try.pinned (OpenSpec.ofChange drrFairSpec)

/-- ITS FALSE NEIGHBOUR: 'it returns false'. Refute it at one input. -/
def drrFairWrong : ChangeSpec := { name := "drrFair", fn := fun _ => fun
  | [d1, d2, d3, d4] => { results := [.lit (.bool false)], args := [d1, d2, d3, d4] }
  | _ => none }
def DrrFairWrongFalsely : Prop := drrFairRow.holds Try.pinned (OpenSpec.ofChange drrFairWrong)

/-- 'longlinelaw27.DrrLives': WHATEVER THE INPUT: true; the input reads as it did. -/
def drrLivesSpec : ChangeSpec := { name := "drrLives", fn := fun _ => fun
  | [d1, d2] => { results := [.lit (.bool true)], args := [d1, d2] }
  | _ => none }
def drrLivesRow : OpenClaim := { program := "ytbcononfgpfdbaa", sum := "f69329001a6dada182a46603854678605b842ac503abac62070c21f52261a983", func := "longline/longlinelaw27.DrrLives", spec := "drrLives", unfollowed := true, recurses := true, apart := false }
def DrrLivesSaid : Prop := drrLivesRow.holds Try.pinned (OpenSpec.ofChange drrLivesSpec)

/-- ITS FALSE NEIGHBOUR: 'it returns false'. Refute it at one input. -/
def drrLivesWrong : ChangeSpec := { name := "drrLives", fn := fun _ => fun
  | [d1, d2] => { results := [.lit (.bool false)], args := [d1, d2] }
  | _ => none }
def DrrLivesWrongFalsely : Prop := drrLivesRow.holds Try.pinned (OpenSpec.ofChange drrLivesWrong)

/-- 'longlinelaw27.DrrCircle': WHATEVER THE INPUT: true; the input reads as it did. -/
def drrCircleSpec : ChangeSpec := { name := "drrCircle", fn := fun _ => fun
  | [d1, d2] => { results := [.lit (.bool true)], args := [d1, d2] }
  | _ => none }
def drrCircleRow : OpenClaim := { program := "ytbcononfgpfdbaa", sum := "f69329001a6dada182a46603854678605b842ac503abac62070c21f52261a983", func := "longline/longlinelaw27.DrrCircle", spec := "drrCircle", unfollowed := true, recurses := true, apart := false }
def DrrCircleSaid : Prop := drrCircleRow.holds Try.pinned (OpenSpec.ofChange drrCircleSpec)

/-- ITS FALSE NEIGHBOUR: 'it returns false'. Refute it at one input. -/
def drrCircleWrong : ChangeSpec := { name := "drrCircle", fn := fun _ => fun
  | [d1, d2] => { results := [.lit (.bool false)], args := [d1, d2] }
  | _ => none }
def DrrCircleWrongFalsely : Prop := drrCircleRow.holds Try.pinned (OpenSpec.ofChange drrCircleWrong)

/-- 'longlinelaw15.AnsiFeeds': WHATEVER THE INPUT: true; the input reads as it did. -/
def ansiFeedsSpec : ChangeSpec := { name := "ansiFeeds", fn := fun _ => fun
  | [d] => { results := [.lit (.bool true)], args := [d] }
  | _ => none }
def ansiFeedsRow : OpenClaim := { program := "ytbcononfgpfdbaa", sum := "f69329001a6dada182a46603854678605b842ac503abac62070c21f52261a983", func := "longline/longlinelaw15.AnsiFeeds", spec := "ansiFeeds", recurses := true, apart := false }
def AnsiFeedsSaid : Prop := ansiFeedsRow.holds Try.pinned (OpenSpec.ofChange ansiFeedsSpec)

/-- ITS FALSE NEIGHBOUR: 'it returns false'. Refute it at one input. -/
def ansiFeedsWrong : ChangeSpec := { name := "ansiFeeds", fn := fun _ => fun
  | [d] => { results := [.lit (.bool false)], args := [d] }
  | _ => none }
def AnsiFeedsWrongFalsely : Prop := ansiFeedsRow.holds Try.pinned (OpenSpec.ofChange ansiFeedsWrong)

/-- 'longlinelaw15.AnsiSame': WHATEVER THE INPUT: true; the input reads as it did. -/
def ansiSameSpec : ChangeSpec := { name := "ansiSame", fn := fun _ => fun
  | [d1, d2] => { results := [.lit (.bool true)], args := [d1, d2] }
  | _ => none }
def ansiSameRow : OpenClaim := { program := "ytbcononfgpfdbaa", sum := "f69329001a6dada182a46603854678605b842ac503abac62070c21f52261a983", func := "longline/longlinelaw15.AnsiSame", spec := "ansiSame", recurses := true, apart := false }
def AnsiSameSaid : Prop := ansiSameRow.holds Try.pinned (OpenSpec.ofChange ansiSameSpec)

/-- ITS FALSE NEIGHBOUR: 'it returns false'. Refute it at one input. -/
def ansiSameWrong : ChangeSpec := { name := "ansiSame", fn := fun _ => fun
  | [d1, d2] => { results := [.lit (.bool false)], args := [d1, d2] }
  | _ => none }
def AnsiSameWrongFalsely : Prop := ansiSameRow.holds Try.pinned (OpenSpec.ofChange ansiSameWrong)

/-- 'longlinelaw15.AnsiPieces': WHATEVER THE INPUT: true; the input reads as it did. -/
def ansiPiecesSpec : ChangeSpec := { name := "ansiPieces", fn := fun _ => fun
  | [d1, d2] => { results := [.lit (.bool true)], args := [d1, d2] }
  | _ => none }
def ansiPiecesRow : OpenClaim := { program := "ytbcononfgpfdbaa", sum := "f69329001a6dada182a46603854678605b842ac503abac62070c21f52261a983", func := "longline/longlinelaw15.AnsiPieces", spec := "ansiPieces", recurses := true, apart := false }
def AnsiPiecesSaid : Prop := ansiPiecesRow.holds Try.pinned (OpenSpec.ofChange ansiPiecesSpec)

/-- ITS FALSE NEIGHBOUR: 'it returns false'. Refute it at one input. -/
def ansiPiecesWrong : ChangeSpec := { name := "ansiPieces", fn := fun _ => fun
  | [d1, d2] => { results := [.lit (.bool false)], args := [d1, d2] }
  | _ => none }
def AnsiPiecesWrongFalsely : Prop := ansiPiecesRow.holds Try.pinned (OpenSpec.ofChange ansiPiecesWrong)

/-- 'longlinelaw15.AnsiCancels': WHATEVER THE INPUT: true; the input reads as it did. -/
def ansiCancelsSpec : ChangeSpec := { name := "ansiCancels", fn := fun _ => fun
  | [d1, d2] => { results := [.lit (.bool true)], args := [d1, d2] }
  | _ => none }
def ansiCancelsRow : OpenClaim := { program := "ytbcononfgpfdbaa", sum := "f69329001a6dada182a46603854678605b842ac503abac62070c21f52261a983", func := "longline/longlinelaw15.AnsiCancels", spec := "ansiCancels", recurses := true, apart := false }
def AnsiCancelsSaid : Prop := ansiCancelsRow.holds Try.pinned (OpenSpec.ofChange ansiCancelsSpec)

/-- ITS FALSE NEIGHBOUR: 'it returns false'. Refute it at one input. -/
def ansiCancelsWrong : ChangeSpec := { name := "ansiCancels", fn := fun _ => fun
  | [d1, d2] => { results := [.lit (.bool false)], args := [d1, d2] }
  | _ => none }
def AnsiCancelsWrongFalsely : Prop := ansiCancelsRow.holds Try.pinned (OpenSpec.ofChange ansiCancelsWrong)

/-- 'longlinelaw15.AnsiInside': WHATEVER THE INPUT: true; the input reads as it did. -/
def ansiInsideSpec : ChangeSpec := { name := "ansiInside", fn := fun _ => fun
  | [d1, d2, d3] => { results := [.lit (.bool true)], args := [d1, d2, d3] }
  | _ => none }
def ansiInsideRow : OpenClaim := { program := "ytbcononfgpfdbaa", sum := "f69329001a6dada182a46603854678605b842ac503abac62070c21f52261a983", func := "longline/longlinelaw15.AnsiInside", spec := "ansiInside", recurses := true, apart := false }
def AnsiInsideSaid : Prop := ansiInsideRow.holds Try.pinned (OpenSpec.ofChange ansiInsideSpec)

/-- ITS FALSE NEIGHBOUR: 'it returns false'. Refute it at one input. -/
def ansiInsideWrong : ChangeSpec := { name := "ansiInside", fn := fun _ => fun
  | [d1, d2, d3] => { results := [.lit (.bool false)], args := [d1, d2, d3] }
  | _ => none }
def AnsiInsideWrongFalsely : Prop := ansiInsideRow.holds Try.pinned (OpenSpec.ofChange ansiInsideWrong)

/-- 'longlinelaw28.SchedLives': WHATEVER THE INPUT: true; the input reads as it did. -/
def schedLivesSpec : ChangeSpec := { name := "schedLives", fn := fun _ => fun
  | [d1, d2] => { results := [.lit (.bool true)], args := [d1, d2] }
  | _ => none }
def schedLivesRow : OpenClaim := { program := "ytbcononfgpfdbaa", sum := "f69329001a6dada182a46603854678605b842ac503abac62070c21f52261a983", func := "longline/longlinelaw28.SchedLives", spec := "schedLives", unfollowed := true, recurses := true, apart := false }
def SchedLivesSaid : Prop := schedLivesRow.holds Try.pinned (OpenSpec.ofChange schedLivesSpec)

/-- ITS FALSE NEIGHBOUR: 'it returns false'. Refute it at one input. -/
def schedLivesWrong : ChangeSpec := { name := "schedLives", fn := fun _ => fun
  | [d1, d2] => { results := [.lit (.bool false)], args := [d1, d2] }
  | _ => none }
def SchedLivesWrongFalsely : Prop := schedLivesRow.holds Try.pinned (OpenSpec.ofChange schedLivesWrong)

/-- 'longlinelaw28.SchedBudget': WHATEVER THE INPUT: true; the input reads as it did. -/
def schedBudgetSpec : ChangeSpec := { name := "schedBudget", fn := fun _ => fun
  | [d1, d2] => { results := [.lit (.bool true)], args := [d1, d2] }
  | _ => none }
def schedBudgetRow : OpenClaim := { program := "ytbcononfgpfdbaa", sum := "f69329001a6dada182a46603854678605b842ac503abac62070c21f52261a983", func := "longline/longlinelaw28.SchedBudget", spec := "schedBudget", unfollowed := true, recurses := true, apart := false }
def SchedBudgetSaid : Prop := schedBudgetRow.holds Try.pinned (OpenSpec.ofChange schedBudgetSpec)

/-- ITS FALSE NEIGHBOUR: 'it returns false'. Refute it at one input. -/
def schedBudgetWrong : ChangeSpec := { name := "schedBudget", fn := fun _ => fun
  | [d1, d2] => { results := [.lit (.bool false)], args := [d1, d2] }
  | _ => none }
def SchedBudgetWrongFalsely : Prop := schedBudgetRow.holds Try.pinned (OpenSpec.ofChange schedBudgetWrong)

/-- 'longlinelaw28.SchedFair': WHATEVER THE INPUT: true; the input reads as it did. -/
def schedFairSpec : ChangeSpec := { name := "schedFair", fn := fun _ => fun
  | [d1, d2, d3, d4] => { results := [.lit (.bool true)], args := [d1, d2, d3, d4] }
  | _ => none }
def schedFairRow : OpenClaim := { program := "ytbcononfgpfdbaa", sum := "f69329001a6dada182a46603854678605b842ac503abac62070c21f52261a983", func := "longline/longlinelaw28.SchedFair", spec := "schedFair", unfollowed := true, recurses := true, apart := false }
def SchedFairSaid : Prop := schedFairRow.holds Try.pinned (OpenSpec.ofChange schedFairSpec)

/-- ITS FALSE NEIGHBOUR: 'it returns false'. Refute it at one input. -/
def schedFairWrong : ChangeSpec := { name := "schedFair", fn := fun _ => fun
  | [d1, d2, d3, d4] => { results := [.lit (.bool false)], args := [d1, d2, d3, d4] }
  | _ => none }
def SchedFairWrongFalsely : Prop := schedFairRow.holds Try.pinned (OpenSpec.ofChange schedFairWrong)

/-- 'longlinelaw28.SchedAll': WHATEVER THE INPUT: true; the input reads as it did. -/
def schedAllSpec : ChangeSpec := { name := "schedAll", fn := fun _ => fun
  | [d1, d2, d3] => { results := [.lit (.bool true)], args := [d1, d2, d3] }
  | _ => none }
def schedAllRow : OpenClaim := { program := "ytbcononfgpfdbaa", sum := "f69329001a6dada182a46603854678605b842ac503abac62070c21f52261a983", func := "longline/longlinelaw28.SchedAll", spec := "schedAll", unfollowed := true, recurses := true, apart := false }
def SchedAllSaid : Prop := schedAllRow.holds Try.pinned (OpenSpec.ofChange schedAllSpec)

/-- ITS FALSE NEIGHBOUR: 'it returns false'. Refute it at one input. -/
def schedAllWrong : ChangeSpec := { name := "schedAll", fn := fun _ => fun
  | [d1, d2, d3] => { results := [.lit (.bool false)], args := [d1, d2, d3] }
  | _ => none }
def SchedAllWrongFalsely : Prop := schedAllRow.holds Try.pinned (OpenSpec.ofChange schedAllWrong)

/- THE SECOND FORM. 'bulk': how many values and letters a reading holds, each counted each time it is reached (what is shared counts as often as it is met; a slice's spare places count too). A statement '..UptoSaid' is the law's where the arguments, and the package variables that the reading takes, are together of bulk at most 1048576: NARROWER than '..Said'. Prove '..Said' where nothing that the law and all that it calls make is longer than what came in: it says more and counts as full. Else prove '..UptoSaid'. A law counts once. -/
mutual
def uptoBulk {H : Type} : DataW H → Nat
  | .lit (.string bytes) => bytes.length + 1
  | .lit _ => 1
  | .nil => 1
  | .ptr d => uptoBulk d + 1
  | .slice elems spare => uptoBulkAll elems + uptoBulkAll spare + 1
  | .agg parts => uptoBulkAll parts + 1
  | .iface _ d => uptoBulk d + 1
  | .map entries => uptoBulkEntries entries + 1
  | .held _ => 1
def uptoBulkAll {H : Type} : List (DataW H) → Nat
  | [] => 0
  | d :: r => uptoBulk d + uptoBulkAll r
def uptoBulkEntries {H : Type} : List (Lit × DataW H) → Nat
  | [] => 0
  | x :: r => uptoBulkEntry x + uptoBulkEntries r
def uptoBulkEntry {H : Type} : Lit × DataW H → Nat
  | (.string bytes, d) => bytes.length + uptoBulk d + 1
  | (_, d) => uptoBulk d + 1
 end
def uptoSmall : (H : Type) → List (DataW H) → Bool := fun _ ds => decide (uptoBulkAll ds ≤ 1048576)
def OpenSpec.upto (s : _root_.Go.ChangeSpec) : _root_.Go.OpenSpec := { _root_.Go.OpenSpec.ofChange s with cond := some uptoSmall }

/-- 'longlinelaw27.DrrFair', WHERE WHAT IT READS IS OF BULK AT MOST 1048576: true; the input reads as it did. -/
def drrFairUptoRow : OpenClaim := { program := "ytbcononfgpfdbaa", sum := "f69329001a6dada182a46603854678605b842ac503abac62070c21f52261a983", func := "longline/longlinelaw27.DrrFair", spec := "drrFair", unfollowed := true, recurses := true, apart := false, narrowed := true }
def DrrFairUptoSaid : Prop := drrFairUptoRow.holds Try.pinned (OpenSpec.upto drrFairSpec)

/-- 'longlinelaw27.DrrLives', WHERE WHAT IT READS IS OF BULK AT MOST 1048576: true; the input reads as it did. -/
def drrLivesUptoRow : OpenClaim := { program := "ytbcononfgpfdbaa", sum := "f69329001a6dada182a46603854678605b842ac503abac62070c21f52261a983", func := "longline/longlinelaw27.DrrLives", spec := "drrLives", unfollowed := true, recurses := true, apart := false, narrowed := true }
def DrrLivesUptoSaid : Prop := drrLivesUptoRow.holds Try.pinned (OpenSpec.upto drrLivesSpec)

/-- 'longlinelaw27.DrrCircle', WHERE WHAT IT READS IS OF BULK AT MOST 1048576: true; the input reads as it did. -/
def drrCircleUptoRow : OpenClaim := { program := "ytbcononfgpfdbaa", sum := "f69329001a6dada182a46603854678605b842ac503abac62070c21f52261a983", func := "longline/longlinelaw27.DrrCircle", spec := "drrCircle", unfollowed := true, recurses := true, apart := false, narrowed := true }
def DrrCircleUptoSaid : Prop := drrCircleUptoRow.holds Try.pinned (OpenSpec.upto drrCircleSpec)

/-- 'longlinelaw15.AnsiFeeds', WHERE WHAT IT READS IS OF BULK AT MOST 1048576: true; the input reads as it did. -/
def ansiFeedsUptoRow : OpenClaim := { program := "ytbcononfgpfdbaa", sum := "f69329001a6dada182a46603854678605b842ac503abac62070c21f52261a983", func := "longline/longlinelaw15.AnsiFeeds", spec := "ansiFeeds", recurses := true, apart := false, narrowed := true }
def AnsiFeedsUptoSaid : Prop := ansiFeedsUptoRow.holds Try.pinned (OpenSpec.upto ansiFeedsSpec)

/-- 'longlinelaw15.AnsiSame', WHERE WHAT IT READS IS OF BULK AT MOST 1048576: true; the input reads as it did. -/
def ansiSameUptoRow : OpenClaim := { program := "ytbcononfgpfdbaa", sum := "f69329001a6dada182a46603854678605b842ac503abac62070c21f52261a983", func := "longline/longlinelaw15.AnsiSame", spec := "ansiSame", recurses := true, apart := false, narrowed := true }
def AnsiSameUptoSaid : Prop := ansiSameUptoRow.holds Try.pinned (OpenSpec.upto ansiSameSpec)

/-- 'longlinelaw15.AnsiPieces', WHERE WHAT IT READS IS OF BULK AT MOST 1048576: true; the input reads as it did. -/
def ansiPiecesUptoRow : OpenClaim := { program := "ytbcononfgpfdbaa", sum := "f69329001a6dada182a46603854678605b842ac503abac62070c21f52261a983", func := "longline/longlinelaw15.AnsiPieces", spec := "ansiPieces", recurses := true, apart := false, narrowed := true }
def AnsiPiecesUptoSaid : Prop := ansiPiecesUptoRow.holds Try.pinned (OpenSpec.upto ansiPiecesSpec)

/-- 'longlinelaw15.AnsiCancels', WHERE WHAT IT READS IS OF BULK AT MOST 1048576: true; the input reads as it did. -/
def ansiCancelsUptoRow : OpenClaim := { program := "ytbcononfgpfdbaa", sum := "f69329001a6dada182a46603854678605b842ac503abac62070c21f52261a983", func := "longline/longlinelaw15.AnsiCancels", spec := "ansiCancels", recurses := true, apart := false, narrowed := true }
def AnsiCancelsUptoSaid : Prop := ansiCancelsUptoRow.holds Try.pinned (OpenSpec.upto ansiCancelsSpec)

/-- 'longlinelaw15.AnsiInside', WHERE WHAT IT READS IS OF BULK AT MOST 1048576: true; the input reads as it did. -/
def ansiInsideUptoRow : OpenClaim := { program := "ytbcononfgpfdbaa", sum := "f69329001a6dada182a46603854678605b842ac503abac62070c21f52261a983", func := "longline/longlinelaw15.AnsiInside", spec := "ansiInside", recurses := true, apart := false, narrowed := true }
def AnsiInsideUptoSaid : Prop := ansiInsideUptoRow.holds Try.pinned (OpenSpec.upto ansiInsideSpec)

/-- 'longlinelaw28.SchedLives', WHERE WHAT IT READS IS OF BULK AT MOST 1048576: true; the input reads as it did. -/
def schedLivesUptoRow : OpenClaim := { program := "ytbcononfgpfdbaa", sum := "f69329001a6dada182a46603854678605b842ac503abac62070c21f52261a983", func := "longline/longlinelaw28.SchedLives", spec := "schedLives", unfollowed := true, recurses := true, apart := false, narrowed := true }
def SchedLivesUptoSaid : Prop := schedLivesUptoRow.holds Try.pinned (OpenSpec.upto schedLivesSpec)

/-- 'longlinelaw28.SchedBudget', WHERE WHAT IT READS IS OF BULK AT MOST 1048576: true; the input reads as it did. -/
def schedBudgetUptoRow : OpenClaim := { program := "ytbcononfgpfdbaa", sum := "f69329001a6dada182a46603854678605b842ac503abac62070c21f52261a983", func := "longline/longlinelaw28.SchedBudget", spec := "schedBudget", unfollowed := true, recurses := true, apart := false, narrowed := true }
def SchedBudgetUptoSaid : Prop := schedBudgetUptoRow.holds Try.pinned (OpenSpec.upto schedBudgetSpec)

/-- 'longlinelaw28.SchedFair', WHERE WHAT IT READS IS OF BULK AT MOST 1048576: true; the input reads as it did. -/
def schedFairUptoRow : OpenClaim := { program := "ytbcononfgpfdbaa", sum := "f69329001a6dada182a46603854678605b842ac503abac62070c21f52261a983", func := "longline/longlinelaw28.SchedFair", spec := "schedFair", unfollowed := true, recurses := true, apart := false, narrowed := true }
def SchedFairUptoSaid : Prop := schedFairUptoRow.holds Try.pinned (OpenSpec.upto schedFairSpec)

/-- 'longlinelaw28.SchedAll', WHERE WHAT IT READS IS OF BULK AT MOST 1048576: true; the input reads as it did. -/
def schedAllUptoRow : OpenClaim := { program := "ytbcononfgpfdbaa", sum := "f69329001a6dada182a46603854678605b842ac503abac62070c21f52261a983", func := "longline/longlinelaw28.SchedAll", spec := "schedAll", unfollowed := true, recurses := true, apart := false, narrowed := true }
def SchedAllUptoSaid : Prop := schedAllUptoRow.holds Try.pinned (OpenSpec.upto schedAllSpec)

end Rows
end Go.Proofs.Ytbcononfgpfdbaa
