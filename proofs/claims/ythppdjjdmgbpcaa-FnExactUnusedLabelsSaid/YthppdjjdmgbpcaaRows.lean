/-
  No cell of these rows narrows 'for every input' (looked for: loops, veiled, ifaces, maps, wideKeys, modest, calm, conditions, laid).
  DERIVED. THE GIVEN ROWS OF THIS SEAT. 11 by the template 'for every input the law returns true; each argument reads behind the call as it read before'; 0 by the template 'total and deterministic' (their statements: YthppdjjdmgbpcaaTotals.lean).
  GIVEN WITH THE SEED: the statements are not yours to turn. If you find one false, say at which input.
  Laid BY PROGRAM, IN A SANDBOX (cutbox-rows.mjs): the forced cells as the released guide's own fill.sh prints them over the translation b922a38e104a524e… (all of the seat's roots in one cut). By AI agents, Wed Nov 11 2026. No macro, syntax, notation, axiom, sorry.
-/
import Derived.Test.YthppdjjdmgbpcaaChecked
import GoSem.Claim
import GoSem.ClaimJoined
import GoSem.ClaimMapViews
import Derived.JoinedTies
import Derived.KernelRfl
namespace Go.Proofs.Ythppdjjdmgbpcaa
/- THE CELL 'sum', in the pinned program and in every row, IS THE sha256 OF THE DUMP (.gsa) THAT YthppdjjdmgbpcaaProg.lean LOADS. Nothing in Lean hashes anything: it is a label: what it is worth is what the hold of that sum in a sandbox is worth. -/
noncomputable def Try.pinned : Pinned := { name := "ythppdjjdmgbpcaa", sum := "b922a38e104a524ed866c45d293ca52409957a660d7f079d624ea35dd7530150", checked := Try.checked }
namespace Rows
def none {H : Type} : Left H := { results := [], args := [] }

/-- 'laws.FnFlat': WHATEVER THE INPUT: true; the input reads as it did. -/
def fnFlatSpec : ChangeSpec := { name := "fnFlat", fn := fun _ => fun
  | [d] => { results := [.lit (.bool true)], args := [d] }
  | _ => none }
def fnFlatRow : OpenClaim := { program := "ythppdjjdmgbpcaa", sum := "b922a38e104a524ed866c45d293ca52409957a660d7f079d624ea35dd7530150", func := "loop.example/g00955/laws.FnFlat", spec := "fnFlat", unfollowed := true, recurses := true, apart := false }
def FnFlatSaid : Prop := fnFlatRow.holds Try.pinned (OpenSpec.ofChange fnFlatSpec)

/-- ITS FALSE NEIGHBOUR: 'it returns false'. Refute it at one input. -/
def fnFlatWrong : ChangeSpec := { name := "fnFlat", fn := fun _ => fun
  | [d] => { results := [.lit (.bool false)], args := [d] }
  | _ => none }
def FnFlatWrongFalsely : Prop := fnFlatRow.holds Try.pinned (OpenSpec.ofChange fnFlatWrong)

/-- 'laws.FnExactSameScript': WHATEVER THE INPUT: true; the input reads as it did. -/
def fnExactSameScriptSpec : ChangeSpec := { name := "fnExactSameScript", fn := fun _ => fun
  | [d1, d2] => { results := [.lit (.bool true)], args := [d1, d2] }
  | _ => none }
def fnExactSameScriptRow : OpenClaim := { program := "ythppdjjdmgbpcaa", sum := "b922a38e104a524ed866c45d293ca52409957a660d7f079d624ea35dd7530150", func := "loop.example/g00955/laws.FnExactSameScript", spec := "fnExactSameScript", apart := false }
def FnExactSameScriptSaid : Prop := fnExactSameScriptRow.holds Try.pinned (OpenSpec.ofChange fnExactSameScriptSpec)

/-- ITS FALSE NEIGHBOUR: 'it returns false'. Refute it at one input. -/
def fnExactSameScriptWrong : ChangeSpec := { name := "fnExactSameScript", fn := fun _ => fun
  | [d1, d2] => { results := [.lit (.bool false)], args := [d1, d2] }
  | _ => none }
def FnExactSameScriptWrongFalsely : Prop := fnExactSameScriptRow.holds Try.pinned (OpenSpec.ofChange fnExactSameScriptWrong)

/-- 'laws.FnExactValidScript': WHATEVER THE INPUT: true; the input reads as it did. -/
def fnExactValidScriptSpec : ChangeSpec := { name := "fnExactValidScript", fn := fun _ => fun
  | [d] => { results := [.lit (.bool true)], args := [d] }
  | _ => none }
def fnExactValidScriptRow : OpenClaim := { program := "ythppdjjdmgbpcaa", sum := "b922a38e104a524ed866c45d293ca52409957a660d7f079d624ea35dd7530150", func := "loop.example/g00955/laws.FnExactValidScript", spec := "fnExactValidScript", unfollowed := true, recurses := true, apart := false }
def FnExactValidScriptSaid : Prop := fnExactValidScriptRow.holds Try.pinned (OpenSpec.ofChange fnExactValidScriptSpec)

/-- ITS FALSE NEIGHBOUR: 'it returns false'. Refute it at one input. -/
def fnExactValidScriptWrong : ChangeSpec := { name := "fnExactValidScript", fn := fun _ => fun
  | [d] => { results := [.lit (.bool false)], args := [d] }
  | _ => none }
def FnExactValidScriptWrongFalsely : Prop := fnExactValidScriptRow.holds Try.pinned (OpenSpec.ofChange fnExactValidScriptWrong)

/-- 'laws.FnExactLabelAt': WHATEVER THE INPUT: true; the input reads as it did. -/
def fnExactLabelAtSpec : ChangeSpec := { name := "fnExactLabelAt", fn := fun _ => fun
  | [d1, d2] => { results := [.lit (.bool true)], args := [d1, d2] }
  | _ => none }
def fnExactLabelAtRow : OpenClaim := { program := "ythppdjjdmgbpcaa", sum := "b922a38e104a524ed866c45d293ca52409957a660d7f079d624ea35dd7530150", func := "loop.example/g00955/laws.FnExactLabelAt", spec := "fnExactLabelAt", unfollowed := true, recurses := true, apart := false }
def FnExactLabelAtSaid : Prop := fnExactLabelAtRow.holds Try.pinned (OpenSpec.ofChange fnExactLabelAtSpec)

/-- ITS FALSE NEIGHBOUR: 'it returns false'. Refute it at one input. -/
def fnExactLabelAtWrong : ChangeSpec := { name := "fnExactLabelAt", fn := fun _ => fun
  | [d1, d2] => { results := [.lit (.bool false)], args := [d1, d2] }
  | _ => none }
def FnExactLabelAtWrongFalsely : Prop := fnExactLabelAtRow.holds Try.pinned (OpenSpec.ofChange fnExactLabelAtWrong)

/-- 'laws.FnExactUnusedLabels': WHATEVER THE INPUT: true; the input reads as it did. -/
def fnExactUnusedLabelsSpec : ChangeSpec := { name := "fnExactUnusedLabels", fn := fun _ => fun
  | [d] => { results := [.lit (.bool true)], args := [d] }
  | _ => none }
def fnExactUnusedLabelsRow : OpenClaim := { program := "ythppdjjdmgbpcaa", sum := "b922a38e104a524ed866c45d293ca52409957a660d7f079d624ea35dd7530150", func := "loop.example/g00955/laws.FnExactUnusedLabels", spec := "fnExactUnusedLabels", unfollowed := true, recurses := true, apart := false }
def FnExactUnusedLabelsSaid : Prop := fnExactUnusedLabelsRow.holds Try.pinned (OpenSpec.ofChange fnExactUnusedLabelsSpec)

/-- ITS FALSE NEIGHBOUR: 'it returns false'. Refute it at one input. -/
def fnExactUnusedLabelsWrong : ChangeSpec := { name := "fnExactUnusedLabels", fn := fun _ => fun
  | [d] => { results := [.lit (.bool false)], args := [d] }
  | _ => none }
def FnExactUnusedLabelsWrongFalsely : Prop := fnExactUnusedLabelsRow.holds Try.pinned (OpenSpec.ofChange fnExactUnusedLabelsWrong)

/-- 'laws.FnExactScriptTime': WHATEVER THE INPUT: true; the input reads as it did. -/
def fnExactScriptTimeSpec : ChangeSpec := { name := "fnExactScriptTime", fn := fun _ => fun
  | [d1, d2] => { results := [.lit (.bool true)], args := [d1, d2] }
  | _ => none }
def fnExactScriptTimeRow : OpenClaim := { program := "ythppdjjdmgbpcaa", sum := "b922a38e104a524ed866c45d293ca52409957a660d7f079d624ea35dd7530150", func := "loop.example/g00955/laws.FnExactScriptTime", spec := "fnExactScriptTime", unfollowed := true, recurses := true, apart := false }
def FnExactScriptTimeSaid : Prop := fnExactScriptTimeRow.holds Try.pinned (OpenSpec.ofChange fnExactScriptTimeSpec)

/-- ITS FALSE NEIGHBOUR: 'it returns false'. Refute it at one input. -/
def fnExactScriptTimeWrong : ChangeSpec := { name := "fnExactScriptTime", fn := fun _ => fun
  | [d1, d2] => { results := [.lit (.bool false)], args := [d1, d2] }
  | _ => none }
def FnExactScriptTimeWrongFalsely : Prop := fnExactScriptTimeRow.holds Try.pinned (OpenSpec.ofChange fnExactScriptTimeWrong)

/-- 'laws.FnExactStepsOf': WHATEVER THE INPUT: true; the input reads as it did. -/
def fnExactStepsOfSpec : ChangeSpec := { name := "fnExactStepsOf", fn := fun _ => fun
  | [d1, d2] => { results := [.lit (.bool true)], args := [d1, d2] }
  | _ => none }
def fnExactStepsOfRow : OpenClaim := { program := "ythppdjjdmgbpcaa", sum := "b922a38e104a524ed866c45d293ca52409957a660d7f079d624ea35dd7530150", func := "loop.example/g00955/laws.FnExactStepsOf", spec := "fnExactStepsOf", unfollowed := true, recurses := true, apart := false }
def FnExactStepsOfSaid : Prop := fnExactStepsOfRow.holds Try.pinned (OpenSpec.ofChange fnExactStepsOfSpec)

/-- ITS FALSE NEIGHBOUR: 'it returns false'. Refute it at one input. -/
def fnExactStepsOfWrong : ChangeSpec := { name := "fnExactStepsOf", fn := fun _ => fun
  | [d1, d2] => { results := [.lit (.bool false)], args := [d1, d2] }
  | _ => none }
def FnExactStepsOfWrongFalsely : Prop := fnExactStepsOfRow.holds Try.pinned (OpenSpec.ofChange fnExactStepsOfWrong)

/-- 'laws.FnExactRunScript': WHATEVER THE INPUT: true; the input reads as it did. -/
def fnExactRunScriptSpec : ChangeSpec := { name := "fnExactRunScript", fn := fun _ => fun
  | [d1, d2] => { results := [.lit (.bool true)], args := [d1, d2] }
  | _ => none }
def fnExactRunScriptRow : OpenClaim := { program := "ythppdjjdmgbpcaa", sum := "b922a38e104a524ed866c45d293ca52409957a660d7f079d624ea35dd7530150", func := "loop.example/g00955/laws.FnExactRunScript", spec := "fnExactRunScript", unfollowed := true, recurses := true, apart := false }
def FnExactRunScriptSaid : Prop := fnExactRunScriptRow.holds Try.pinned (OpenSpec.ofChange fnExactRunScriptSpec)

/-- ITS FALSE NEIGHBOUR: 'it returns false'. Refute it at one input. -/
def fnExactRunScriptWrong : ChangeSpec := { name := "fnExactRunScript", fn := fun _ => fun
  | [d1, d2] => { results := [.lit (.bool false)], args := [d1, d2] }
  | _ => none }
def FnExactRunScriptWrongFalsely : Prop := fnExactRunScriptRow.holds Try.pinned (OpenSpec.ofChange fnExactRunScriptWrong)

/-- 'laws.FnExactUnreachedLines': WHATEVER THE INPUT: true; the input reads as it did. -/
def fnExactUnreachedLinesSpec : ChangeSpec := { name := "fnExactUnreachedLines", fn := fun _ => fun
  | [d1, d2] => { results := [.lit (.bool true)], args := [d1, d2] }
  | _ => none }
def fnExactUnreachedLinesRow : OpenClaim := { program := "ythppdjjdmgbpcaa", sum := "b922a38e104a524ed866c45d293ca52409957a660d7f079d624ea35dd7530150", func := "loop.example/g00955/laws.FnExactUnreachedLines", spec := "fnExactUnreachedLines", unfollowed := true, recurses := true, apart := false }
def FnExactUnreachedLinesSaid : Prop := fnExactUnreachedLinesRow.holds Try.pinned (OpenSpec.ofChange fnExactUnreachedLinesSpec)

/-- ITS FALSE NEIGHBOUR: 'it returns false'. Refute it at one input. -/
def fnExactUnreachedLinesWrong : ChangeSpec := { name := "fnExactUnreachedLines", fn := fun _ => fun
  | [d1, d2] => { results := [.lit (.bool false)], args := [d1, d2] }
  | _ => none }
def FnExactUnreachedLinesWrongFalsely : Prop := fnExactUnreachedLinesRow.holds Try.pinned (OpenSpec.ofChange fnExactUnreachedLinesWrong)

/-- 'laws.FnExactFlatScript': WHATEVER THE INPUT: true; the input reads as it did. -/
def fnExactFlatScriptSpec : ChangeSpec := { name := "fnExactFlatScript", fn := fun _ => fun
  | [d1, d2] => { results := [.lit (.bool true)], args := [d1, d2] }
  | _ => none }
def fnExactFlatScriptRow : OpenClaim := { program := "ythppdjjdmgbpcaa", sum := "b922a38e104a524ed866c45d293ca52409957a660d7f079d624ea35dd7530150", func := "loop.example/g00955/laws.FnExactFlatScript", spec := "fnExactFlatScript", unfollowed := true, recurses := true, apart := false }
def FnExactFlatScriptSaid : Prop := fnExactFlatScriptRow.holds Try.pinned (OpenSpec.ofChange fnExactFlatScriptSpec)

/-- ITS FALSE NEIGHBOUR: 'it returns false'. Refute it at one input. -/
def fnExactFlatScriptWrong : ChangeSpec := { name := "fnExactFlatScript", fn := fun _ => fun
  | [d1, d2] => { results := [.lit (.bool false)], args := [d1, d2] }
  | _ => none }
def FnExactFlatScriptWrongFalsely : Prop := fnExactFlatScriptRow.holds Try.pinned (OpenSpec.ofChange fnExactFlatScriptWrong)

/-- 'laws.FnExactCuesOfScript': WHATEVER THE INPUT: true; the input reads as it did. -/
def fnExactCuesOfScriptSpec : ChangeSpec := { name := "fnExactCuesOfScript", fn := fun _ => fun
  | [d] => { results := [.lit (.bool true)], args := [d] }
  | _ => none }
def fnExactCuesOfScriptRow : OpenClaim := { program := "ythppdjjdmgbpcaa", sum := "b922a38e104a524ed866c45d293ca52409957a660d7f079d624ea35dd7530150", func := "loop.example/g00955/laws.FnExactCuesOfScript", spec := "fnExactCuesOfScript", unfollowed := true, recurses := true, apart := false }
def FnExactCuesOfScriptSaid : Prop := fnExactCuesOfScriptRow.holds Try.pinned (OpenSpec.ofChange fnExactCuesOfScriptSpec)

/-- ITS FALSE NEIGHBOUR: 'it returns false'. Refute it at one input. -/
def fnExactCuesOfScriptWrong : ChangeSpec := { name := "fnExactCuesOfScript", fn := fun _ => fun
  | [d] => { results := [.lit (.bool false)], args := [d] }
  | _ => none }
def FnExactCuesOfScriptWrongFalsely : Prop := fnExactCuesOfScriptRow.holds Try.pinned (OpenSpec.ofChange fnExactCuesOfScriptWrong)

/- THE SECOND FORM. 'bulk': how many values and letters a reading holds, each counted each time it is reached (what is shared counts as often as it is met; a slice's spare places count too). A statement '..UptoSaid' is the law's where the arguments, and the package variables that the reading takes, are together of bulk at most 1048576: NARROWER than '..Said'. Prove '..Said' where nothing that the law and all that it calls make is longer than what came in: it says more and counts as full. Else prove '..UptoSaid'. A law counts once. -/
mutual
def uptoBulk {H : Type} : DataW H → Nat
  | .lit (.string bytes) => bytes.length + 1
  | .lit _ => 1
  | .nil => 1
  | .ptr d => uptoBulk d + 1
  | .slice elems spare => uptoBulkAll elems + uptoBulkAll spare + 1
  | .agg parts => uptoBulkAll parts + 1
  | .iface _ d => uptoBulk d + 1
  | .map entries => uptoBulkEntries entries + 1
  | .held _ => 1
def uptoBulkAll {H : Type} : List (DataW H) → Nat
  | [] => 0
  | d :: r => uptoBulk d + uptoBulkAll r
def uptoBulkEntries {H : Type} : List (Lit × DataW H) → Nat
  | [] => 0
  | x :: r => uptoBulkEntry x + uptoBulkEntries r
def uptoBulkEntry {H : Type} : Lit × DataW H → Nat
  | (.string bytes, d) => bytes.length + uptoBulk d + 1
  | (_, d) => uptoBulk d + 1
 end
def uptoSmall : (H : Type) → List (DataW H) → Bool := fun _ ds => decide (uptoBulkAll ds ≤ 1048576)
def OpenSpec.upto (s : _root_.Go.ChangeSpec) : _root_.Go.OpenSpec := { _root_.Go.OpenSpec.ofChange s with cond := some uptoSmall }

/-- 'laws.FnFlat', WHERE WHAT IT READS IS OF BULK AT MOST 1048576: true; the input reads as it did. -/
def fnFlatUptoRow : OpenClaim := { program := "ythppdjjdmgbpcaa", sum := "b922a38e104a524ed866c45d293ca52409957a660d7f079d624ea35dd7530150", func := "loop.example/g00955/laws.FnFlat", spec := "fnFlat", unfollowed := true, recurses := true, apart := false, narrowed := true }
def FnFlatUptoSaid : Prop := fnFlatUptoRow.holds Try.pinned (OpenSpec.upto fnFlatSpec)

/-- 'laws.FnExactSameScript', WHERE WHAT IT READS IS OF BULK AT MOST 1048576: true; the input reads as it did. -/
def fnExactSameScriptUptoRow : OpenClaim := { program := "ythppdjjdmgbpcaa", sum := "b922a38e104a524ed866c45d293ca52409957a660d7f079d624ea35dd7530150", func := "loop.example/g00955/laws.FnExactSameScript", spec := "fnExactSameScript", apart := false, narrowed := true }
def FnExactSameScriptUptoSaid : Prop := fnExactSameScriptUptoRow.holds Try.pinned (OpenSpec.upto fnExactSameScriptSpec)

/-- 'laws.FnExactValidScript', WHERE WHAT IT READS IS OF BULK AT MOST 1048576: true; the input reads as it did. -/
def fnExactValidScriptUptoRow : OpenClaim := { program := "ythppdjjdmgbpcaa", sum := "b922a38e104a524ed866c45d293ca52409957a660d7f079d624ea35dd7530150", func := "loop.example/g00955/laws.FnExactValidScript", spec := "fnExactValidScript", unfollowed := true, recurses := true, apart := false, narrowed := true }
def FnExactValidScriptUptoSaid : Prop := fnExactValidScriptUptoRow.holds Try.pinned (OpenSpec.upto fnExactValidScriptSpec)

/-- 'laws.FnExactLabelAt', WHERE WHAT IT READS IS OF BULK AT MOST 1048576: true; the input reads as it did. -/
def fnExactLabelAtUptoRow : OpenClaim := { program := "ythppdjjdmgbpcaa", sum := "b922a38e104a524ed866c45d293ca52409957a660d7f079d624ea35dd7530150", func := "loop.example/g00955/laws.FnExactLabelAt", spec := "fnExactLabelAt", unfollowed := true, recurses := true, apart := false, narrowed := true }
def FnExactLabelAtUptoSaid : Prop := fnExactLabelAtUptoRow.holds Try.pinned (OpenSpec.upto fnExactLabelAtSpec)

/-- 'laws.FnExactUnusedLabels', WHERE WHAT IT READS IS OF BULK AT MOST 1048576: true; the input reads as it did. -/
def fnExactUnusedLabelsUptoRow : OpenClaim := { program := "ythppdjjdmgbpcaa", sum := "b922a38e104a524ed866c45d293ca52409957a660d7f079d624ea35dd7530150", func := "loop.example/g00955/laws.FnExactUnusedLabels", spec := "fnExactUnusedLabels", unfollowed := true, recurses := true, apart := false, narrowed := true }
def FnExactUnusedLabelsUptoSaid : Prop := fnExactUnusedLabelsUptoRow.holds Try.pinned (OpenSpec.upto fnExactUnusedLabelsSpec)

/-- 'laws.FnExactScriptTime', WHERE WHAT IT READS IS OF BULK AT MOST 1048576: true; the input reads as it did. -/
def fnExactScriptTimeUptoRow : OpenClaim := { program := "ythppdjjdmgbpcaa", sum := "b922a38e104a524ed866c45d293ca52409957a660d7f079d624ea35dd7530150", func := "loop.example/g00955/laws.FnExactScriptTime", spec := "fnExactScriptTime", unfollowed := true, recurses := true, apart := false, narrowed := true }
def FnExactScriptTimeUptoSaid : Prop := fnExactScriptTimeUptoRow.holds Try.pinned (OpenSpec.upto fnExactScriptTimeSpec)

/-- 'laws.FnExactStepsOf', WHERE WHAT IT READS IS OF BULK AT MOST 1048576: true; the input reads as it did. -/
def fnExactStepsOfUptoRow : OpenClaim := { program := "ythppdjjdmgbpcaa", sum := "b922a38e104a524ed866c45d293ca52409957a660d7f079d624ea35dd7530150", func := "loop.example/g00955/laws.FnExactStepsOf", spec := "fnExactStepsOf", unfollowed := true, recurses := true, apart := false, narrowed := true }
def FnExactStepsOfUptoSaid : Prop := fnExactStepsOfUptoRow.holds Try.pinned (OpenSpec.upto fnExactStepsOfSpec)

/-- 'laws.FnExactRunScript', WHERE WHAT IT READS IS OF BULK AT MOST 1048576: true; the input reads as it did. -/
def fnExactRunScriptUptoRow : OpenClaim := { program := "ythppdjjdmgbpcaa", sum := "b922a38e104a524ed866c45d293ca52409957a660d7f079d624ea35dd7530150", func := "loop.example/g00955/laws.FnExactRunScript", spec := "fnExactRunScript", unfollowed := true, recurses := true, apart := false, narrowed := true }
def FnExactRunScriptUptoSaid : Prop := fnExactRunScriptUptoRow.holds Try.pinned (OpenSpec.upto fnExactRunScriptSpec)

/-- 'laws.FnExactUnreachedLines', WHERE WHAT IT READS IS OF BULK AT MOST 1048576: true; the input reads as it did. -/
def fnExactUnreachedLinesUptoRow : OpenClaim := { program := "ythppdjjdmgbpcaa", sum := "b922a38e104a524ed866c45d293ca52409957a660d7f079d624ea35dd7530150", func := "loop.example/g00955/laws.FnExactUnreachedLines", spec := "fnExactUnreachedLines", unfollowed := true, recurses := true, apart := false, narrowed := true }
def FnExactUnreachedLinesUptoSaid : Prop := fnExactUnreachedLinesUptoRow.holds Try.pinned (OpenSpec.upto fnExactUnreachedLinesSpec)

/-- 'laws.FnExactFlatScript', WHERE WHAT IT READS IS OF BULK AT MOST 1048576: true; the input reads as it did. -/
def fnExactFlatScriptUptoRow : OpenClaim := { program := "ythppdjjdmgbpcaa", sum := "b922a38e104a524ed866c45d293ca52409957a660d7f079d624ea35dd7530150", func := "loop.example/g00955/laws.FnExactFlatScript", spec := "fnExactFlatScript", unfollowed := true, recurses := true, apart := false, narrowed := true }
def FnExactFlatScriptUptoSaid : Prop := fnExactFlatScriptUptoRow.holds Try.pinned (OpenSpec.upto fnExactFlatScriptSpec)

/-- 'laws.FnExactCuesOfScript', WHERE WHAT IT READS IS OF BULK AT MOST 1048576: true; the input reads as it did. -/
def fnExactCuesOfScriptUptoRow : OpenClaim := { program := "ythppdjjdmgbpcaa", sum := "b922a38e104a524ed866c45d293ca52409957a660d7f079d624ea35dd7530150", func := "loop.example/g00955/laws.FnExactCuesOfScript", spec := "fnExactCuesOfScript", unfollowed := true, recurses := true, apart := false, narrowed := true }
def FnExactCuesOfScriptUptoSaid : Prop := fnExactCuesOfScriptUptoRow.holds Try.pinned (OpenSpec.upto fnExactCuesOfScriptSpec)

end Rows
end Go.Proofs.Ythppdjjdmgbpcaa
