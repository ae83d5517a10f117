/-
  No cell of these rows narrows 'for every input' (looked for: loops, veiled, ifaces, maps, wideKeys, modest, calm, conditions, laid).
  DERIVED. THE GIVEN ROWS OF THIS SEAT. 4 by the template 'for every input the law returns true; each argument reads behind the call as it read before'; 0 by the template 'total and deterministic' (their statements: YtohaphbogjigcaaTotals.lean).
  GIVEN WITH THE SEED: the statements are not yours to turn. If you find one false, say at which input.
  Laid BY PROGRAM, IN A SANDBOX (cutbox-rows.mjs): the forced cells as the released guide's own fill.sh prints them over the translation 783b93231e8c6bf0… (all of the seat's roots in one cut). By AI agents, Wed Nov 11 2026. No macro, syntax, notation, axiom, sorry.
-/
import Derived.Test.YtohaphbogjigcaaChecked
import GoSem.Claim
import GoSem.ClaimJoined
import GoSem.ClaimMapViews
import Derived.JoinedTies
import Derived.KernelRfl
namespace Go.Proofs.Ytohaphbogjigcaa
/- THE CELL 'sum', in the pinned program and in every row, IS THE sha256 OF THE DUMP (.gsa) THAT YtohaphbogjigcaaProg.lean LOADS. Nothing in Lean hashes anything: it is a label: what it is worth is what the hold of that sum in a sandbox is worth. -/
noncomputable def Try.pinned : Pinned := { name := "ytohaphbogjigcaa", sum := "783b93231e8c6bf0084398ff7a3126359499139c7f0281d81786f053cb580a94", checked := Try.checked }
namespace Rows
def none {H : Type} : Left H := { results := [], args := [] }

/-- 'assizelaw13.LevelTells': WHATEVER THE INPUT: true; the input reads as it did. -/
def levelTellsSpec : ChangeSpec := { name := "levelTells", fn := fun _ => fun
  | [d1, d2, d3] => { results := [.lit (.bool true)], args := [d1, d2, d3] }
  | _ => none }
def levelTellsRow : OpenClaim := { program := "ytohaphbogjigcaa", sum := "783b93231e8c6bf0084398ff7a3126359499139c7f0281d81786f053cb580a94", func := "assize/assizelaw13.LevelTells", spec := "levelTells", unfollowed := true, recurses := true, apart := false }
def LevelTellsSaid : Prop := levelTellsRow.holds Try.pinned (OpenSpec.ofChange levelTellsSpec)

/-- ITS FALSE NEIGHBOUR: 'it returns false'. Refute it at one input. -/
def levelTellsWrong : ChangeSpec := { name := "levelTells", fn := fun _ => fun
  | [d1, d2, d3] => { results := [.lit (.bool false)], args := [d1, d2, d3] }
  | _ => none }
def LevelTellsWrongFalsely : Prop := levelTellsRow.holds Try.pinned (OpenSpec.ofChange levelTellsWrong)

/-- 'assizelaw13.LevelOrder': WHATEVER THE INPUT: true; the input reads as it did. -/
def levelOrderSpec : ChangeSpec := { name := "levelOrder", fn := fun _ => fun
  | [d1, d2, d3] => { results := [.lit (.bool true)], args := [d1, d2, d3] }
  | _ => none }
def levelOrderRow : OpenClaim := { program := "ytohaphbogjigcaa", sum := "783b93231e8c6bf0084398ff7a3126359499139c7f0281d81786f053cb580a94", func := "assize/assizelaw13.LevelOrder", spec := "levelOrder", unfollowed := true, recurses := true, apart := false }
def LevelOrderSaid : Prop := levelOrderRow.holds Try.pinned (OpenSpec.ofChange levelOrderSpec)

/-- ITS FALSE NEIGHBOUR: 'it returns false'. Refute it at one input. -/
def levelOrderWrong : ChangeSpec := { name := "levelOrder", fn := fun _ => fun
  | [d1, d2, d3] => { results := [.lit (.bool false)], args := [d1, d2, d3] }
  | _ => none }
def LevelOrderWrongFalsely : Prop := levelOrderRow.holds Try.pinned (OpenSpec.ofChange levelOrderWrong)

/-- 'assizelaw13.LevelMarks': WHATEVER THE INPUT: true; the input reads as it did. -/
def levelMarksSpec : ChangeSpec := { name := "levelMarks", fn := fun _ => fun
  | [d] => { results := [.lit (.bool true)], args := [d] }
  | _ => none }
def levelMarksRow : OpenClaim := { program := "ytohaphbogjigcaa", sum := "783b93231e8c6bf0084398ff7a3126359499139c7f0281d81786f053cb580a94", func := "assize/assizelaw13.LevelMarks", spec := "levelMarks", unfollowed := true, recurses := true, apart := false }
def LevelMarksSaid : Prop := levelMarksRow.holds Try.pinned (OpenSpec.ofChange levelMarksSpec)

/-- ITS FALSE NEIGHBOUR: 'it returns false'. Refute it at one input. -/
def levelMarksWrong : ChangeSpec := { name := "levelMarks", fn := fun _ => fun
  | [d] => { results := [.lit (.bool false)], args := [d] }
  | _ => none }
def LevelMarksWrongFalsely : Prop := levelMarksRow.holds Try.pinned (OpenSpec.ofChange levelMarksWrong)

/-- 'assizelaw13.LevelUnder': WHATEVER THE INPUT: true; the input reads as it did. -/
def levelUnderSpec : ChangeSpec := { name := "levelUnder", fn := fun _ => fun
  | [d] => { results := [.lit (.bool true)], args := [d] }
  | _ => none }
def levelUnderRow : OpenClaim := { program := "ytohaphbogjigcaa", sum := "783b93231e8c6bf0084398ff7a3126359499139c7f0281d81786f053cb580a94", func := "assize/assizelaw13.LevelUnder", spec := "levelUnder", unfollowed := true, recurses := true, apart := false }
def LevelUnderSaid : Prop := levelUnderRow.holds Try.pinned (OpenSpec.ofChange levelUnderSpec)

/-- ITS FALSE NEIGHBOUR: 'it returns false'. Refute it at one input. -/
def levelUnderWrong : ChangeSpec := { name := "levelUnder", fn := fun _ => fun
  | [d] => { results := [.lit (.bool false)], args := [d] }
  | _ => none }
def LevelUnderWrongFalsely : Prop := levelUnderRow.holds Try.pinned (OpenSpec.ofChange levelUnderWrong)

/- THE SECOND FORM. 'bulk': how many values and letters a reading holds, each counted each time it is reached (what is shared counts as often as it is met; a slice's spare places count too). A statement '..UptoSaid' is the law's where the arguments, and the package variables that the reading takes, are together of bulk at most 1048576: NARROWER than '..Said'. Prove '..Said' where nothing that the law and all that it calls make is longer than what came in: it says more and counts as full. Else prove '..UptoSaid'. A law counts once. -/
mutual
def uptoBulk {H : Type} : DataW H → Nat
  | .lit (.string bytes) => bytes.length + 1
  | .lit _ => 1
  | .nil => 1
  | .ptr d => uptoBulk d + 1
  | .slice elems spare => uptoBulkAll elems + uptoBulkAll spare + 1
  | .agg parts => uptoBulkAll parts + 1
  | .iface _ d => uptoBulk d + 1
  | .map entries => uptoBulkEntries entries + 1
  | .held _ => 1
def uptoBulkAll {H : Type} : List (DataW H) → Nat
  | [] => 0
  | d :: r => uptoBulk d + uptoBulkAll r
def uptoBulkEntries {H : Type} : List (Lit × DataW H) → Nat
  | [] => 0
  | x :: r => uptoBulkEntry x + uptoBulkEntries r
def uptoBulkEntry {H : Type} : Lit × DataW H → Nat
  | (.string bytes, d) => bytes.length + uptoBulk d + 1
  | (_, d) => uptoBulk d + 1
 end
def uptoSmall : (H : Type) → List (DataW H) → Bool := fun _ ds => decide (uptoBulkAll ds ≤ 1048576)
def OpenSpec.upto (s : _root_.Go.ChangeSpec) : _root_.Go.OpenSpec := { _root_.Go.OpenSpec.ofChange s with cond := some uptoSmall }

/-- 'assizelaw13.LevelTells', WHERE WHAT IT READS IS OF BULK AT MOST 1048576: true; the input reads as it did. -/
def levelTellsUptoRow : OpenClaim := { program := "ytohaphbogjigcaa", sum := "783b93231e8c6bf0084398ff7a3126359499139c7f0281d81786f053cb580a94", func := "assize/assizelaw13.LevelTells", spec := "levelTells", unfollowed := true, recurses := true, apart := false, narrowed := true }
def LevelTellsUptoSaid : Prop := levelTellsUptoRow.holds Try.pinned (OpenSpec.upto levelTellsSpec)

/-- 'assizelaw13.LevelOrder', WHERE WHAT IT READS IS OF BULK AT MOST 1048576: true; the input reads as it did. -/
def levelOrderUptoRow : OpenClaim := { program := "ytohaphbogjigcaa", sum := "783b93231e8c6bf0084398ff7a3126359499139c7f0281d81786f053cb580a94", func := "assize/assizelaw13.LevelOrder", spec := "levelOrder", unfollowed := true, recurses := true, apart := false, narrowed := true }
def LevelOrderUptoSaid : Prop := levelOrderUptoRow.holds Try.pinned (OpenSpec.upto levelOrderSpec)

/-- 'assizelaw13.LevelMarks', WHERE WHAT IT READS IS OF BULK AT MOST 1048576: true; the input reads as it did. -/
def levelMarksUptoRow : OpenClaim := { program := "ytohaphbogjigcaa", sum := "783b93231e8c6bf0084398ff7a3126359499139c7f0281d81786f053cb580a94", func := "assize/assizelaw13.LevelMarks", spec := "levelMarks", unfollowed := true, recurses := true, apart := false, narrowed := true }
def LevelMarksUptoSaid : Prop := levelMarksUptoRow.holds Try.pinned (OpenSpec.upto levelMarksSpec)

/-- 'assizelaw13.LevelUnder', WHERE WHAT IT READS IS OF BULK AT MOST 1048576: true; the input reads as it did. -/
def levelUnderUptoRow : OpenClaim := { program := "ytohaphbogjigcaa", sum := "783b93231e8c6bf0084398ff7a3126359499139c7f0281d81786f053cb580a94", func := "assize/assizelaw13.LevelUnder", spec := "levelUnder", unfollowed := true, recurses := true, apart := false, narrowed := true }
def LevelUnderUptoSaid : Prop := levelUnderUptoRow.holds Try.pinned (OpenSpec.upto levelUnderSpec)

end Rows
end Go.Proofs.Ytohaphbogjigcaa
