/-
  No cell of these rows narrows 'for every input' (looked for: loops, veiled, ifaces, maps, wideKeys, modest, calm, conditions, laid).
  DERIVED. THE GIVEN ROWS OF THIS SEAT. 12 by the template 'for every input the law returns true; each argument reads behind the call as it read before'; 0 by the template 'total and deterministic' (their statements: YthgdbdhonhkkpaaTotals.lean).
  GIVEN WITH THE SEED: the statements are not yours to turn. If you find one false, say at which input.
  Laid BY PROGRAM, IN A SANDBOX (cutbox-rows.mjs): the forced cells as the released guide's own fill.sh prints them over the translation 1240c5df1c701db1… (all of the seat's roots in one cut). By AI agents, Wed Nov 11 2026. No macro, syntax, notation, axiom, sorry.
-/
import Derived.Test.YthgdbdhonhkkpaaChecked
import GoSem.Claim
import GoSem.ClaimJoined
import GoSem.ClaimMapViews
import Derived.JoinedTies
import Derived.KernelRfl
namespace Go.Proofs.Ythgdbdhonhkkpaa
/- THE CELL 'sum', in the pinned program and in every row, IS THE sha256 OF THE DUMP (.gsa) THAT YthgdbdhonhkkpaaProg.lean LOADS. Nothing in Lean hashes anything: it is a label: what it is worth is what the hold of that sum in a sandbox is worth. -/
noncomputable def Try.pinned : Pinned := { name := "ythgdbdhonhkkpaa", sum := "1240c5df1c701db16e388c471bee6504ab60bd50107c41bae0469ac487eda404", checked := Try.checked }
namespace Rows
def none {H : Type} : Left H := { results := [], args := [] }

/-- 'longlinelaw09.FragFrames': WHATEVER THE INPUT: true; the input reads as it did. -/
def fragFramesSpec : ChangeSpec := { name := "fragFrames", fn := fun _ => fun
  | [d1, d2, d3, d4] => { results := [.lit (.bool true)], args := [d1, d2, d3, d4] }
  | _ => none }
def fragFramesRow : OpenClaim := { program := "ythgdbdhonhkkpaa", sum := "1240c5df1c701db16e388c471bee6504ab60bd50107c41bae0469ac487eda404", func := "longline/longlinelaw09.FragFrames", spec := "fragFrames", unfollowed := true, recurses := true, apart := false }
def FragFramesSaid : Prop := fragFramesRow.holds Try.pinned (OpenSpec.ofChange fragFramesSpec)

/-- ITS FALSE NEIGHBOUR: 'it returns false'. Refute it at one input. -/
def fragFramesWrong : ChangeSpec := { name := "fragFrames", fn := fun _ => fun
  | [d1, d2, d3, d4] => { results := [.lit (.bool false)], args := [d1, d2, d3, d4] }
  | _ => none }
def FragFramesWrongFalsely : Prop := fragFramesRow.holds Try.pinned (OpenSpec.ofChange fragFramesWrong)

/-- 'longlinelaw09.FragSizes': WHATEVER THE INPUT: true; the input reads as it did. -/
def fragSizesSpec : ChangeSpec := { name := "fragSizes", fn := fun _ => fun
  | [d1, d2, d3, d4] => { results := [.lit (.bool true)], args := [d1, d2, d3, d4] }
  | _ => none }
def fragSizesRow : OpenClaim := { program := "ythgdbdhonhkkpaa", sum := "1240c5df1c701db16e388c471bee6504ab60bd50107c41bae0469ac487eda404", func := "longline/longlinelaw09.FragSizes", spec := "fragSizes", unfollowed := true, recurses := true, apart := false }
def FragSizesSaid : Prop := fragSizesRow.holds Try.pinned (OpenSpec.ofChange fragSizesSpec)

/-- ITS FALSE NEIGHBOUR: 'it returns false'. Refute it at one input. -/
def fragSizesWrong : ChangeSpec := { name := "fragSizes", fn := fun _ => fun
  | [d1, d2, d3, d4] => { results := [.lit (.bool false)], args := [d1, d2, d3, d4] }
  | _ => none }
def FragSizesWrongFalsely : Prop := fragSizesRow.holds Try.pinned (OpenSpec.ofChange fragSizesWrong)

/-- 'longlinelaw09.FragParts': WHATEVER THE INPUT: true; the input reads as it did. -/
def fragPartsSpec : ChangeSpec := { name := "fragParts", fn := fun _ => fun
  | [d1, d2] => { results := [.lit (.bool true)], args := [d1, d2] }
  | _ => none }
def fragPartsRow : OpenClaim := { program := "ythgdbdhonhkkpaa", sum := "1240c5df1c701db16e388c471bee6504ab60bd50107c41bae0469ac487eda404", func := "longline/longlinelaw09.FragParts", spec := "fragParts", unfollowed := true, recurses := true, apart := false }
def FragPartsSaid : Prop := fragPartsRow.holds Try.pinned (OpenSpec.ofChange fragPartsSpec)

/-- ITS FALSE NEIGHBOUR: 'it returns false'. Refute it at one input. -/
def fragPartsWrong : ChangeSpec := { name := "fragParts", fn := fun _ => fun
  | [d1, d2] => { results := [.lit (.bool false)], args := [d1, d2] }
  | _ => none }
def FragPartsWrongFalsely : Prop := fragPartsRow.holds Try.pinned (OpenSpec.ofChange fragPartsWrong)

/-- 'longlinelaw09.FragBack': WHATEVER THE INPUT: true; the input reads as it did. -/
def fragBackSpec : ChangeSpec := { name := "fragBack", fn := fun _ => fun
  | [d1, d2, d3] => { results := [.lit (.bool true)], args := [d1, d2, d3] }
  | _ => none }
def fragBackRow : OpenClaim := { program := "ythgdbdhonhkkpaa", sum := "1240c5df1c701db16e388c471bee6504ab60bd50107c41bae0469ac487eda404", func := "longline/longlinelaw09.FragBack", spec := "fragBack", unfollowed := true, recurses := true, apart := false }
def FragBackSaid : Prop := fragBackRow.holds Try.pinned (OpenSpec.ofChange fragBackSpec)

/-- ITS FALSE NEIGHBOUR: 'it returns false'. Refute it at one input. -/
def fragBackWrong : ChangeSpec := { name := "fragBack", fn := fun _ => fun
  | [d1, d2, d3] => { results := [.lit (.bool false)], args := [d1, d2, d3] }
  | _ => none }
def FragBackWrongFalsely : Prop := fragBackRow.holds Try.pinned (OpenSpec.ofChange fragBackWrong)

/-- 'longlinelaw16.StyleBytes': WHATEVER THE INPUT: true; the input reads as it did. -/
def styleBytesSpec : ChangeSpec := { name := "styleBytes", fn := fun _ => fun
  | [d1, d2, d3] => { results := [.lit (.bool true)], args := [d1, d2, d3] }
  | _ => none }
def styleBytesRow : OpenClaim := { program := "ythgdbdhonhkkpaa", sum := "1240c5df1c701db16e388c471bee6504ab60bd50107c41bae0469ac487eda404", func := "longline/longlinelaw16.StyleBytes", spec := "styleBytes", apart := false }
def StyleBytesSaid : Prop := styleBytesRow.holds Try.pinned (OpenSpec.ofChange styleBytesSpec)

/-- ITS FALSE NEIGHBOUR: 'it returns false'. Refute it at one input. -/
def styleBytesWrong : ChangeSpec := { name := "styleBytes", fn := fun _ => fun
  | [d1, d2, d3] => { results := [.lit (.bool false)], args := [d1, d2, d3] }
  | _ => none }
def StyleBytesWrongFalsely : Prop := styleBytesRow.holds Try.pinned (OpenSpec.ofChange styleBytesWrong)

/-- 'longlinelaw16.StyleBack': WHATEVER THE INPUT: true; the input reads as it did. -/
def styleBackSpec : ChangeSpec := { name := "styleBack", fn := fun _ => fun
  | [d1, d2] => { results := [.lit (.bool true)], args := [d1, d2] }
  | _ => none }
def styleBackRow : OpenClaim := { program := "ythgdbdhonhkkpaa", sum := "1240c5df1c701db16e388c471bee6504ab60bd50107c41bae0469ac487eda404", func := "longline/longlinelaw16.StyleBack", spec := "styleBack", apart := false }
def StyleBackSaid : Prop := styleBackRow.holds Try.pinned (OpenSpec.ofChange styleBackSpec)

/-- ITS FALSE NEIGHBOUR: 'it returns false'. Refute it at one input. -/
def styleBackWrong : ChangeSpec := { name := "styleBack", fn := fun _ => fun
  | [d1, d2] => { results := [.lit (.bool false)], args := [d1, d2] }
  | _ => none }
def StyleBackWrongFalsely : Prop := styleBackRow.holds Try.pinned (OpenSpec.ofChange styleBackWrong)

/-- 'longlinelaw16.StyleFlags': WHATEVER THE INPUT: true; the input reads as it did. -/
def styleFlagsSpec : ChangeSpec := { name := "styleFlags", fn := fun _ => fun
  | [d1, d2] => { results := [.lit (.bool true)], args := [d1, d2] }
  | _ => none }
def styleFlagsRow : OpenClaim := { program := "ythgdbdhonhkkpaa", sum := "1240c5df1c701db16e388c471bee6504ab60bd50107c41bae0469ac487eda404", func := "longline/longlinelaw16.StyleFlags", spec := "styleFlags", apart := false }
def StyleFlagsSaid : Prop := styleFlagsRow.holds Try.pinned (OpenSpec.ofChange styleFlagsSpec)

/-- ITS FALSE NEIGHBOUR: 'it returns false'. Refute it at one input. -/
def styleFlagsWrong : ChangeSpec := { name := "styleFlags", fn := fun _ => fun
  | [d1, d2] => { results := [.lit (.bool false)], args := [d1, d2] }
  | _ => none }
def StyleFlagsWrongFalsely : Prop := styleFlagsRow.holds Try.pinned (OpenSpec.ofChange styleFlagsWrong)

/-- 'longlinelaw16.StyleChanges': WHATEVER THE INPUT: true; the input reads as it did. -/
def styleChangesSpec : ChangeSpec := { name := "styleChanges", fn := fun _ => fun
  | [d1, d2] => { results := [.lit (.bool true)], args := [d1, d2] }
  | _ => none }
def styleChangesRow : OpenClaim := { program := "ythgdbdhonhkkpaa", sum := "1240c5df1c701db16e388c471bee6504ab60bd50107c41bae0469ac487eda404", func := "longline/longlinelaw16.StyleChanges", spec := "styleChanges", apart := false }
def StyleChangesSaid : Prop := styleChangesRow.holds Try.pinned (OpenSpec.ofChange styleChangesSpec)

/-- ITS FALSE NEIGHBOUR: 'it returns false'. Refute it at one input. -/
def styleChangesWrong : ChangeSpec := { name := "styleChanges", fn := fun _ => fun
  | [d1, d2] => { results := [.lit (.bool false)], args := [d1, d2] }
  | _ => none }
def StyleChangesWrongFalsely : Prop := styleChangesRow.holds Try.pinned (OpenSpec.ofChange styleChangesWrong)

/-- 'longlinelaw16.StyleTells': WHATEVER THE INPUT: true; the input reads as it did. -/
def styleTellsSpec : ChangeSpec := { name := "styleTells", fn := fun _ => fun
  | [d1, d2, d3] => { results := [.lit (.bool true)], args := [d1, d2, d3] }
  | _ => none }
def styleTellsRow : OpenClaim := { program := "ythgdbdhonhkkpaa", sum := "1240c5df1c701db16e388c471bee6504ab60bd50107c41bae0469ac487eda404", func := "longline/longlinelaw16.StyleTells", spec := "styleTells", apart := false }
def StyleTellsSaid : Prop := styleTellsRow.holds Try.pinned (OpenSpec.ofChange styleTellsSpec)

/-- ITS FALSE NEIGHBOUR: 'it returns false'. Refute it at one input. -/
def styleTellsWrong : ChangeSpec := { name := "styleTells", fn := fun _ => fun
  | [d1, d2, d3] => { results := [.lit (.bool false)], args := [d1, d2, d3] }
  | _ => none }
def StyleTellsWrongFalsely : Prop := styleTellsRow.holds Try.pinned (OpenSpec.ofChange styleTellsWrong)

/-- 'longlinelaw30.FrameWrites': WHATEVER THE INPUT: true; the input reads as it did. -/
def frameWritesSpec : ChangeSpec := { name := "frameWrites", fn := fun _ => fun
  | [d1, d2] => { results := [.lit (.bool true)], args := [d1, d2] }
  | _ => none }
def frameWritesRow : OpenClaim := { program := "ythgdbdhonhkkpaa", sum := "1240c5df1c701db16e388c471bee6504ab60bd50107c41bae0469ac487eda404", func := "longline/longlinelaw30.FrameWrites", spec := "frameWrites", unfollowed := true, recurses := true, apart := false }
def FrameWritesSaid : Prop := frameWritesRow.holds Try.pinned (OpenSpec.ofChange frameWritesSpec)

/-- ITS FALSE NEIGHBOUR: 'it returns false'. Refute it at one input. -/
def frameWritesWrong : ChangeSpec := { name := "frameWrites", fn := fun _ => fun
  | [d1, d2] => { results := [.lit (.bool false)], args := [d1, d2] }
  | _ => none }
def FrameWritesWrongFalsely : Prop := frameWritesRow.holds Try.pinned (OpenSpec.ofChange frameWritesWrong)

/-- 'longlinelaw30.FrameReads': WHATEVER THE INPUT: true; the input reads as it did. -/
def frameReadsSpec : ChangeSpec := { name := "frameReads", fn := fun _ => fun
  | [d1, d2, d3] => { results := [.lit (.bool true)], args := [d1, d2, d3] }
  | _ => none }
def frameReadsRow : OpenClaim := { program := "ythgdbdhonhkkpaa", sum := "1240c5df1c701db16e388c471bee6504ab60bd50107c41bae0469ac487eda404", func := "longline/longlinelaw30.FrameReads", spec := "frameReads", unfollowed := true, recurses := true, apart := false }
def FrameReadsSaid : Prop := frameReadsRow.holds Try.pinned (OpenSpec.ofChange frameReadsSpec)

/-- ITS FALSE NEIGHBOUR: 'it returns false'. Refute it at one input. -/
def frameReadsWrong : ChangeSpec := { name := "frameReads", fn := fun _ => fun
  | [d1, d2, d3] => { results := [.lit (.bool false)], args := [d1, d2, d3] }
  | _ => none }
def FrameReadsWrongFalsely : Prop := frameReadsRow.holds Try.pinned (OpenSpec.ofChange frameReadsWrong)

/-- 'longlinelaw30.FrameBack': WHATEVER THE INPUT: true; the input reads as it did. -/
def frameBackSpec : ChangeSpec := { name := "frameBack", fn := fun _ => fun
  | [d1, d2, d3] => { results := [.lit (.bool true)], args := [d1, d2, d3] }
  | _ => none }
def frameBackRow : OpenClaim := { program := "ythgdbdhonhkkpaa", sum := "1240c5df1c701db16e388c471bee6504ab60bd50107c41bae0469ac487eda404", func := "longline/longlinelaw30.FrameBack", spec := "frameBack", unfollowed := true, recurses := true, apart := false }
def FrameBackSaid : Prop := frameBackRow.holds Try.pinned (OpenSpec.ofChange frameBackSpec)

/-- ITS FALSE NEIGHBOUR: 'it returns false'. Refute it at one input. -/
def frameBackWrong : ChangeSpec := { name := "frameBack", fn := fun _ => fun
  | [d1, d2, d3] => { results := [.lit (.bool false)], args := [d1, d2, d3] }
  | _ => none }
def FrameBackWrongFalsely : Prop := frameBackRow.holds Try.pinned (OpenSpec.ofChange frameBackWrong)

/- THE SECOND FORM. 'bulk': how many values and letters a reading holds, each counted each time it is reached (what is shared counts as often as it is met; a slice's spare places count too). A statement '..UptoSaid' is the law's where the arguments, and the package variables that the reading takes, are together of bulk at most 1048576: NARROWER than '..Said'. Prove '..Said' where nothing that the law and all that it calls make is longer than what came in: it says more and counts as full. Else prove '..UptoSaid'. A law counts once. -/
mutual
def uptoBulk {H : Type} : DataW H → Nat
  | .lit (.string bytes) => bytes.length + 1
  | .lit _ => 1
  | .nil => 1
  | .ptr d => uptoBulk d + 1
  | .slice elems spare => uptoBulkAll elems + uptoBulkAll spare + 1
  | .agg parts => uptoBulkAll parts + 1
  | .iface _ d => uptoBulk d + 1
  | .map entries => uptoBulkEntries entries + 1
  | .held _ => 1
def uptoBulkAll {H : Type} : List (DataW H) → Nat
  | [] => 0
  | d :: r => uptoBulk d + uptoBulkAll r
def uptoBulkEntries {H : Type} : List (Lit × DataW H) → Nat
  | [] => 0
  | x :: r => uptoBulkEntry x + uptoBulkEntries r
def uptoBulkEntry {H : Type} : Lit × DataW H → Nat
  | (.string bytes, d) => bytes.length + uptoBulk d + 1
  | (_, d) => uptoBulk d + 1
 end
def uptoSmall : (H : Type) → List (DataW H) → Bool := fun _ ds => decide (uptoBulkAll ds ≤ 1048576)
def OpenSpec.upto (s : _root_.Go.ChangeSpec) : _root_.Go.OpenSpec := { _root_.Go.OpenSpec.ofChange s with cond := some uptoSmall }

/-- 'longlinelaw09.FragFrames', WHERE WHAT IT READS IS OF BULK AT MOST 1048576: true; the input reads as it did. -/
def fragFramesUptoRow : OpenClaim := { program := "ythgdbdhonhkkpaa", sum := "1240c5df1c701db16e388c471bee6504ab60bd50107c41bae0469ac487eda404", func := "longline/longlinelaw09.FragFrames", spec := "fragFrames", unfollowed := true, recurses := true, apart := false, narrowed := true }
def FragFramesUptoSaid : Prop := fragFramesUptoRow.holds Try.pinned (OpenSpec.upto fragFramesSpec)

/-- 'longlinelaw09.FragSizes', WHERE WHAT IT READS IS OF BULK AT MOST 1048576: true; the input reads as it did. -/
def fragSizesUptoRow : OpenClaim := { program := "ythgdbdhonhkkpaa", sum := "1240c5df1c701db16e388c471bee6504ab60bd50107c41bae0469ac487eda404", func := "longline/longlinelaw09.FragSizes", spec := "fragSizes", unfollowed := true, recurses := true, apart := false, narrowed := true }
def FragSizesUptoSaid : Prop := fragSizesUptoRow.holds Try.pinned (OpenSpec.upto fragSizesSpec)

/-- 'longlinelaw09.FragParts', WHERE WHAT IT READS IS OF BULK AT MOST 1048576: true; the input reads as it did. -/
def fragPartsUptoRow : OpenClaim := { program := "ythgdbdhonhkkpaa", sum := "1240c5df1c701db16e388c471bee6504ab60bd50107c41bae0469ac487eda404", func := "longline/longlinelaw09.FragParts", spec := "fragParts", unfollowed := true, recurses := true, apart := false, narrowed := true }
def FragPartsUptoSaid : Prop := fragPartsUptoRow.holds Try.pinned (OpenSpec.upto fragPartsSpec)

/-- 'longlinelaw09.FragBack', WHERE WHAT IT READS IS OF BULK AT MOST 1048576: true; the input reads as it did. -/
def fragBackUptoRow : OpenClaim := { program := "ythgdbdhonhkkpaa", sum := "1240c5df1c701db16e388c471bee6504ab60bd50107c41bae0469ac487eda404", func := "longline/longlinelaw09.FragBack", spec := "fragBack", unfollowed := true, recurses := true, apart := false, narrowed := true }
def FragBackUptoSaid : Prop := fragBackUptoRow.holds Try.pinned (OpenSpec.upto fragBackSpec)

/-- 'longlinelaw16.StyleBytes', WHERE WHAT IT READS IS OF BULK AT MOST 1048576: true; the input reads as it did. -/
def styleBytesUptoRow : OpenClaim := { program := "ythgdbdhonhkkpaa", sum := "1240c5df1c701db16e388c471bee6504ab60bd50107c41bae0469ac487eda404", func := "longline/longlinelaw16.StyleBytes", spec := "styleBytes", apart := false, narrowed := true }
def StyleBytesUptoSaid : Prop := styleBytesUptoRow.holds Try.pinned (OpenSpec.upto styleBytesSpec)

/-- 'longlinelaw16.StyleBack', WHERE WHAT IT READS IS OF BULK AT MOST 1048576: true; the input reads as it did. -/
def styleBackUptoRow : OpenClaim := { program := "ythgdbdhonhkkpaa", sum := "1240c5df1c701db16e388c471bee6504ab60bd50107c41bae0469ac487eda404", func := "longline/longlinelaw16.StyleBack", spec := "styleBack", apart := false, narrowed := true }
def StyleBackUptoSaid : Prop := styleBackUptoRow.holds Try.pinned (OpenSpec.upto styleBackSpec)

/-- 'longlinelaw16.StyleFlags', WHERE WHAT IT READS IS OF BULK AT MOST 1048576: true; the input reads as it did. -/
def styleFlagsUptoRow : OpenClaim := { program := "ythgdbdhonhkkpaa", sum := "1240c5df1c701db16e388c471bee6504ab60bd50107c41bae0469ac487eda404", func := "longline/longlinelaw16.StyleFlags", spec := "styleFlags", apart := false, narrowed := true }
def StyleFlagsUptoSaid : Prop := styleFlagsUptoRow.holds Try.pinned (OpenSpec.upto styleFlagsSpec)

/-- 'longlinelaw16.StyleChanges', WHERE WHAT IT READS IS OF BULK AT MOST 1048576: true; the input reads as it did. -/
def styleChangesUptoRow : OpenClaim := { program := "ythgdbdhonhkkpaa", sum := "1240c5df1c701db16e388c471bee6504ab60bd50107c41bae0469ac487eda404", func := "longline/longlinelaw16.StyleChanges", spec := "styleChanges", apart := false, narrowed := true }
def StyleChangesUptoSaid : Prop := styleChangesUptoRow.holds Try.pinned (OpenSpec.upto styleChangesSpec)

/-- 'longlinelaw16.StyleTells', WHERE WHAT IT READS IS OF BULK AT MOST 1048576: true; the input reads as it did. -/
def styleTellsUptoRow : OpenClaim := { program := "ythgdbdhonhkkpaa", sum := "1240c5df1c701db16e388c471bee6504ab60bd50107c41bae0469ac487eda404", func := "longline/longlinelaw16.StyleTells", spec := "styleTells", apart := false, narrowed := true }
def StyleTellsUptoSaid : Prop := styleTellsUptoRow.holds Try.pinned (OpenSpec.upto styleTellsSpec)

/-- 'longlinelaw30.FrameWrites', WHERE WHAT IT READS IS OF BULK AT MOST 1048576: true; the input reads as it did. -/
def frameWritesUptoRow : OpenClaim := { program := "ythgdbdhonhkkpaa", sum := "1240c5df1c701db16e388c471bee6504ab60bd50107c41bae0469ac487eda404", func := "longline/longlinelaw30.FrameWrites", spec := "frameWrites", unfollowed := true, recurses := true, apart := false, narrowed := true }
def FrameWritesUptoSaid : Prop := frameWritesUptoRow.holds Try.pinned (OpenSpec.upto frameWritesSpec)

/-- 'longlinelaw30.FrameReads', WHERE WHAT IT READS IS OF BULK AT MOST 1048576: true; the input reads as it did. -/
def frameReadsUptoRow : OpenClaim := { program := "ythgdbdhonhkkpaa", sum := "1240c5df1c701db16e388c471bee6504ab60bd50107c41bae0469ac487eda404", func := "longline/longlinelaw30.FrameReads", spec := "frameReads", unfollowed := true, recurses := true, apart := false, narrowed := true }
def FrameReadsUptoSaid : Prop := frameReadsUptoRow.holds Try.pinned (OpenSpec.upto frameReadsSpec)

/-- 'longlinelaw30.FrameBack', WHERE WHAT IT READS IS OF BULK AT MOST 1048576: true; the input reads as it did. -/
def frameBackUptoRow : OpenClaim := { program := "ythgdbdhonhkkpaa", sum := "1240c5df1c701db16e388c471bee6504ab60bd50107c41bae0469ac487eda404", func := "longline/longlinelaw30.FrameBack", spec := "frameBack", unfollowed := true, recurses := true, apart := false, narrowed := true }
def FrameBackUptoSaid : Prop := frameBackUptoRow.holds Try.pinned (OpenSpec.upto frameBackSpec)

end Rows
end Go.Proofs.Ythgdbdhonhkkpaa
