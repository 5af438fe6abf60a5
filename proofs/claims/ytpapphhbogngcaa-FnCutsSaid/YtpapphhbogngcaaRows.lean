/-
  No cell of these rows narrows 'for every input' (looked for: loops, veiled, ifaces, maps, wideKeys, modest, calm, conditions, laid).
  DERIVED. THE GIVEN ROWS OF THIS SEAT. 4 by the template 'for every input the law returns true; each argument reads behind the call as it read before'; 0 by the template 'total and deterministic' (their statements: YtpapphhbogngcaaTotals.lean).
  GIVEN WITH THE SEED: the statements are not yours to turn. If you find one false, say at which input.
  Laid BY PROGRAM, IN A SANDBOX (cutbox-rows.mjs): the forced cells as the released guide's own fill.sh prints them over the translation 085be26ed735476a… (all of the seat's roots in one cut). By AI agents, Wed Nov 11 2026. No macro, syntax, notation, axiom, sorry.
-/
import Derived.Test.YtpapphhbogngcaaChecked
import GoSem.Claim
import GoSem.ClaimJoined
import GoSem.ClaimMapViews
import Derived.JoinedTies
import Derived.KernelRfl
namespace Go.Proofs.Ytpapphhbogngcaa
/- THE CELL 'sum', in the pinned program and in every row, IS THE sha256 OF THE DUMP (.gsa) THAT YtpapphhbogngcaaProg.lean LOADS. Nothing in Lean hashes anything: it is a label: what it is worth is what the hold of that sum in a sandbox is worth. -/
noncomputable def Try.pinned : Pinned := { name := "ytpapphhbogngcaa", sum := "085be26ed735476a8fdb63625eed9d53e154172af1a3266e33a3bc3d9e37160c", checked := Try.checked }
namespace Rows
def none {H : Type} : Left H := { results := [], args := [] }

/-- 'laws.FnDrift': WHATEVER THE INPUT: true; the input reads as it did. -/
def fnDriftSpec : ChangeSpec := { name := "fnDrift", fn := fun _ => fun
  | [d1, d2] => { results := [.lit (.bool true)], args := [d1, d2] }
  | _ => none }
def fnDriftRow : OpenClaim := { program := "ytpapphhbogngcaa", sum := "085be26ed735476a8fdb63625eed9d53e154172af1a3266e33a3bc3d9e37160c", func := "loop.example/g00955/laws.FnDrift", spec := "fnDrift", apart := false }
def FnDriftSaid : Prop := fnDriftRow.holds Try.pinned (OpenSpec.ofChange fnDriftSpec)

/-- ITS FALSE NEIGHBOUR: 'it returns false'. Refute it at one input. -/
def fnDriftWrong : ChangeSpec := { name := "fnDrift", fn := fun _ => fun
  | [d1, d2] => { results := [.lit (.bool false)], args := [d1, d2] }
  | _ => none }
def FnDriftWrongFalsely : Prop := fnDriftRow.holds Try.pinned (OpenSpec.ofChange fnDriftWrong)

/-- 'laws.FnFlat': WHATEVER THE INPUT: true; the input reads as it did. -/
def fnFlatSpec : ChangeSpec := { name := "fnFlat", fn := fun _ => fun
  | [d] => { results := [.lit (.bool true)], args := [d] }
  | _ => none }
def fnFlatRow : OpenClaim := { program := "ytpapphhbogngcaa", sum := "085be26ed735476a8fdb63625eed9d53e154172af1a3266e33a3bc3d9e37160c", func := "loop.example/g00955/laws.FnFlat", spec := "fnFlat", unfollowed := true, recurses := true, apart := false }
def FnFlatSaid : Prop := fnFlatRow.holds Try.pinned (OpenSpec.ofChange fnFlatSpec)

/-- ITS FALSE NEIGHBOUR: 'it returns false'. Refute it at one input. -/
def fnFlatWrong : ChangeSpec := { name := "fnFlat", fn := fun _ => fun
  | [d] => { results := [.lit (.bool false)], args := [d] }
  | _ => none }
def FnFlatWrongFalsely : Prop := fnFlatRow.holds Try.pinned (OpenSpec.ofChange fnFlatWrong)

/-- 'laws.FnCuts': WHATEVER THE INPUT: true; the input reads as it did. -/
def fnCutsSpec : ChangeSpec := { name := "fnCuts", fn := fun _ => fun
  | [d1, d2] => { results := [.lit (.bool true)], args := [d1, d2] }
  | _ => none }
def fnCutsRow : OpenClaim := { program := "ytpapphhbogngcaa", sum := "085be26ed735476a8fdb63625eed9d53e154172af1a3266e33a3bc3d9e37160c", func := "loop.example/g00955/laws.FnCuts", spec := "fnCuts", apart := false }
def FnCutsSaid : Prop := fnCutsRow.holds Try.pinned (OpenSpec.ofChange fnCutsSpec)

/-- ITS FALSE NEIGHBOUR: 'it returns false'. Refute it at one input. -/
def fnCutsWrong : ChangeSpec := { name := "fnCuts", fn := fun _ => fun
  | [d1, d2] => { results := [.lit (.bool false)], args := [d1, d2] }
  | _ => none }
def FnCutsWrongFalsely : Prop := fnCutsRow.holds Try.pinned (OpenSpec.ofChange fnCutsWrong)

/-- 'laws.FnExactCuesOfScript': WHATEVER THE INPUT: true; the input reads as it did. -/
def fnExactCuesOfScriptSpec : ChangeSpec := { name := "fnExactCuesOfScript", fn := fun _ => fun
  | [d] => { results := [.lit (.bool true)], args := [d] }
  | _ => none }
def fnExactCuesOfScriptRow : OpenClaim := { program := "ytpapphhbogngcaa", sum := "085be26ed735476a8fdb63625eed9d53e154172af1a3266e33a3bc3d9e37160c", func := "loop.example/g00955/laws.FnExactCuesOfScript", spec := "fnExactCuesOfScript", unfollowed := true, recurses := true, apart := false }
def FnExactCuesOfScriptSaid : Prop := fnExactCuesOfScriptRow.holds Try.pinned (OpenSpec.ofChange fnExactCuesOfScriptSpec)

/-- ITS FALSE NEIGHBOUR: 'it returns false'. Refute it at one input. -/
def fnExactCuesOfScriptWrong : ChangeSpec := { name := "fnExactCuesOfScript", fn := fun _ => fun
  | [d] => { results := [.lit (.bool false)], args := [d] }
  | _ => none }
def FnExactCuesOfScriptWrongFalsely : Prop := fnExactCuesOfScriptRow.holds Try.pinned (OpenSpec.ofChange fnExactCuesOfScriptWrong)

/- THE SECOND FORM. 'bulk': how many values and letters a reading holds, each counted each time it is reached (what is shared counts as often as it is met; a slice's spare places count too). A statement '..UptoSaid' is the law's where the arguments, and the package variables that the reading takes, are together of bulk at most 1048576: NARROWER than '..Said'. Prove '..Said' where nothing that the law and all that it calls make is longer than what came in: it says more and counts as full. Else prove '..UptoSaid'. A law counts once. -/
mutual
def uptoBulk {H : Type} : DataW H → Nat
  | .lit (.string bytes) => bytes.length + 1
  | .lit _ => 1
  | .nil => 1
  | .ptr d => uptoBulk d + 1
  | .slice elems spare => uptoBulkAll elems + uptoBulkAll spare + 1
  | .agg parts => uptoBulkAll parts + 1
  | .iface _ d => uptoBulk d + 1
  | .map entries => uptoBulkEntries entries + 1
  | .held _ => 1
def uptoBulkAll {H : Type} : List (DataW H) → Nat
  | [] => 0
  | d :: r => uptoBulk d + uptoBulkAll r
def uptoBulkEntries {H : Type} : List (Lit × DataW H) → Nat
  | [] => 0
  | x :: r => uptoBulkEntry x + uptoBulkEntries r
def uptoBulkEntry {H : Type} : Lit × DataW H → Nat
  | (.string bytes, d) => bytes.length + uptoBulk d + 1
  | (_, d) => uptoBulk d + 1
 end
def uptoSmall : (H : Type) → List (DataW H) → Bool := fun _ ds => decide (uptoBulkAll ds ≤ 1048576)
def OpenSpec.upto (s : _root_.Go.ChangeSpec) : _root_.Go.OpenSpec := { _root_.Go.OpenSpec.ofChange s with cond := some uptoSmall }

/-- 'laws.FnDrift', WHERE WHAT IT READS IS OF BULK AT MOST 1048576: true; the input reads as it did. -/
def fnDriftUptoRow : OpenClaim := { program := "ytpapphhbogngcaa", sum := "085be26ed735476a8fdb63625eed9d53e154172af1a3266e33a3bc3d9e37160c", func := "loop.example/g00955/laws.FnDrift", spec := "fnDrift", apart := false, narrowed := true }
def FnDriftUptoSaid : Prop := fnDriftUptoRow.holds Try.pinned (OpenSpec.upto fnDriftSpec)

/-- 'laws.FnFlat', WHERE WHAT IT READS IS OF BULK AT MOST 1048576: true; the input reads as it did. -/
def fnFlatUptoRow : OpenClaim := { program := "ytpapphhbogngcaa", sum := "085be26ed735476a8fdb63625eed9d53e154172af1a3266e33a3bc3d9e37160c", func := "loop.example/g00955/laws.FnFlat", spec := "fnFlat", unfollowed := true, recurses := true, apart := false, narrowed := true }
def FnFlatUptoSaid : Prop := fnFlatUptoRow.holds Try.pinned (OpenSpec.upto fnFlatSpec)

/-- 'laws.FnCuts', WHERE WHAT IT READS IS OF BULK AT MOST 1048576: true; the input reads as it did. -/
def fnCutsUptoRow : OpenClaim := { program := "ytpapphhbogngcaa", sum := "085be26ed735476a8fdb63625eed9d53e154172af1a3266e33a3bc3d9e37160c", func := "loop.example/g00955/laws.FnCuts", spec := "fnCuts", apart := false, narrowed := true }
def FnCutsUptoSaid : Prop := fnCutsUptoRow.holds Try.pinned (OpenSpec.upto fnCutsSpec)

/-- 'laws.FnExactCuesOfScript', WHERE WHAT IT READS IS OF BULK AT MOST 1048576: true; the input reads as it did. -/
def fnExactCuesOfScriptUptoRow : OpenClaim := { program := "ytpapphhbogngcaa", sum := "085be26ed735476a8fdb63625eed9d53e154172af1a3266e33a3bc3d9e37160c", func := "loop.example/g00955/laws.FnExactCuesOfScript", spec := "fnExactCuesOfScript", unfollowed := true, recurses := true, apart := false, narrowed := true }
def FnExactCuesOfScriptUptoSaid : Prop := fnExactCuesOfScriptUptoRow.holds Try.pinned (OpenSpec.upto fnExactCuesOfScriptSpec)

end Rows
end Go.Proofs.Ytpapphhbogngcaa
