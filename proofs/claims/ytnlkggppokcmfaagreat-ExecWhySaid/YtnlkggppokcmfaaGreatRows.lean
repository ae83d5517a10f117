/-
  No cell of these rows narrows 'for every input' (looked for: loops, veiled, ifaces, maps, wideKeys, modest, calm, conditions, laid).
  DERIVED. THE GIVEN ROWS OF THIS SEAT. 4 by the template 'for every input the law returns true; each argument reads behind the call as it read before'; 0 by the template 'total and deterministic' (their statements: YtnlkggppokcmfaaGreatTotals.lean).
  GIVEN WITH THE SEED: the statements are not yours to turn. If you find one false, say at which input.
  Laid BY PROGRAM, IN A SANDBOX (cutbox-rows.mjs): the forced cells as the released guide's own fill.sh prints them over the translation a0fa897c7745e4a3… (all of the seat's roots in one cut). By AI agents, Wed Nov 11 2026. No macro, syntax, notation, axiom, sorry.
-/
import Derived.Test.YtnlkggppokcmfaaGreatChecked
import GoSem.Claim
import GoSem.ClaimJoined
import GoSem.ClaimMapViews
import Derived.JoinedTies
import Derived.KernelRfl
namespace Go.Proofs.YtnlkggppokcmfaaGreat
/- THE CELL 'sum', in the pinned program and in every row, IS THE sha256 OF THE DUMP (.gsa) THAT YtnlkggppokcmfaaGreatProg.lean LOADS. Nothing in Lean hashes anything: it is a label: what it is worth is what the hold of that sum in a sandbox is worth. -/
noncomputable def Tryz.pinned : Pinned := { name := "ytnlkggppokcmfaagreat", sum := "a0fa897c7745e4a3d0eb965930985d47d0927856e4537f2c53339708cab92425", checked := Tryz.checked }
namespace Rows
def none {H : Type} : Left H := { results := [], args := [] }

/-- 'assizelaw10.SourceTells': WHATEVER THE INPUT: true; the input reads as it did. -/
def sourceTellsSpec : ChangeSpec := { name := "sourceTells", fn := fun _ => fun
  | [d1, d2, d3] => { results := [.lit (.bool true)], args := [d1, d2, d3] }
  | _ => none }
def sourceTellsRow : OpenClaim := { program := "ytnlkggppokcmfaagreat", sum := "a0fa897c7745e4a3d0eb965930985d47d0927856e4537f2c53339708cab92425", func := "assize/assizelaw10.SourceTells", spec := "sourceTells", unfollowed := true, recurses := true, plainKeys := false, apart := false }
def SourceTellsSaid : Prop := sourceTellsRow.holds Tryz.pinned (OpenSpec.ofChange sourceTellsSpec)

/-- ITS FALSE NEIGHBOUR: 'it returns false'. Refute it at one input. -/
def sourceTellsWrong : ChangeSpec := { name := "sourceTells", fn := fun _ => fun
  | [d1, d2, d3] => { results := [.lit (.bool false)], args := [d1, d2, d3] }
  | _ => none }
def SourceTellsWrongFalsely : Prop := sourceTellsRow.holds Tryz.pinned (OpenSpec.ofChange sourceTellsWrong)

/-- 'assizelaw10.SourceOdd': WHATEVER THE INPUT: true; the input reads as it did. -/
def sourceOddSpec : ChangeSpec := { name := "sourceOdd", fn := fun _ => fun
  | [d1, d2] => { results := [.lit (.bool true)], args := [d1, d2] }
  | _ => none }
def sourceOddRow : OpenClaim := { program := "ytnlkggppokcmfaagreat", sum := "a0fa897c7745e4a3d0eb965930985d47d0927856e4537f2c53339708cab92425", func := "assize/assizelaw10.SourceOdd", spec := "sourceOdd", unfollowed := true, recurses := true, plainKeys := false, apart := false }
def SourceOddSaid : Prop := sourceOddRow.holds Tryz.pinned (OpenSpec.ofChange sourceOddSpec)

/-- ITS FALSE NEIGHBOUR: 'it returns false'. Refute it at one input. -/
def sourceOddWrong : ChangeSpec := { name := "sourceOdd", fn := fun _ => fun
  | [d1, d2] => { results := [.lit (.bool false)], args := [d1, d2] }
  | _ => none }
def SourceOddWrongFalsely : Prop := sourceOddRow.holds Tryz.pinned (OpenSpec.ofChange sourceOddWrong)

/-- 'assizelaw10.SourceKeeps': WHATEVER THE INPUT: true; the input reads as it did. -/
def sourceKeepsSpec : ChangeSpec := { name := "sourceKeeps", fn := fun _ => fun
  | [d1, d2] => { results := [.lit (.bool true)], args := [d1, d2] }
  | _ => none }
def sourceKeepsRow : OpenClaim := { program := "ytnlkggppokcmfaagreat", sum := "a0fa897c7745e4a3d0eb965930985d47d0927856e4537f2c53339708cab92425", func := "assize/assizelaw10.SourceKeeps", spec := "sourceKeeps", unfollowed := true, recurses := true, plainKeys := false, apart := false }
def SourceKeepsSaid : Prop := sourceKeepsRow.holds Tryz.pinned (OpenSpec.ofChange sourceKeepsSpec)

/-- ITS FALSE NEIGHBOUR: 'it returns false'. Refute it at one input. -/
def sourceKeepsWrong : ChangeSpec := { name := "sourceKeeps", fn := fun _ => fun
  | [d1, d2] => { results := [.lit (.bool false)], args := [d1, d2] }
  | _ => none }
def SourceKeepsWrongFalsely : Prop := sourceKeepsRow.holds Tryz.pinned (OpenSpec.ofChange sourceKeepsWrong)

/-- 'assizelaw11.ExecWhy': WHATEVER THE INPUT: true; the input reads as it did. -/
def execWhySpec : ChangeSpec := { name := "execWhy", fn := fun _ => fun
  | [d1, d2] => { results := [.lit (.bool true)], args := [d1, d2] }
  | _ => none }
def execWhyRow : OpenClaim := { program := "ytnlkggppokcmfaagreat", sum := "a0fa897c7745e4a3d0eb965930985d47d0927856e4537f2c53339708cab92425", func := "assize/assizelaw11.ExecWhy", spec := "execWhy", unfollowed := true, recurses := true, plainKeys := false, apart := false }
def ExecWhySaid : Prop := execWhyRow.holds Tryz.pinned (OpenSpec.ofChange execWhySpec)

/-- ITS FALSE NEIGHBOUR: 'it returns false'. Refute it at one input. -/
def execWhyWrong : ChangeSpec := { name := "execWhy", fn := fun _ => fun
  | [d1, d2] => { results := [.lit (.bool false)], args := [d1, d2] }
  | _ => none }
def ExecWhyWrongFalsely : Prop := execWhyRow.holds Tryz.pinned (OpenSpec.ofChange execWhyWrong)

/- THE SECOND FORM. 'bulk': how many values and letters a reading holds, each counted each time it is reached (what is shared counts as often as it is met; a slice's spare places count too). A statement '..UptoSaid' is the law's where the arguments, and the package variables that the reading takes, are together of bulk at most 1048576: NARROWER than '..Said'. Prove '..Said' where nothing that the law and all that it calls make is longer than what came in: it says more and counts as full. Else prove '..UptoSaid'. A law counts once. -/
mutual
def uptoBulk {H : Type} : DataW H → Nat
  | .lit (.string bytes) => bytes.length + 1
  | .lit _ => 1
  | .nil => 1
  | .ptr d => uptoBulk d + 1
  | .slice elems spare => uptoBulkAll elems + uptoBulkAll spare + 1
  | .agg parts => uptoBulkAll parts + 1
  | .iface _ d => uptoBulk d + 1
  | .map entries => uptoBulkEntries entries + 1
  | .held _ => 1
def uptoBulkAll {H : Type} : List (DataW H) → Nat
  | [] => 0
  | d :: r => uptoBulk d + uptoBulkAll r
def uptoBulkEntries {H : Type} : List (Lit × DataW H) → Nat
  | [] => 0
  | x :: r => uptoBulkEntry x + uptoBulkEntries r
def uptoBulkEntry {H : Type} : Lit × DataW H → Nat
  | (.string bytes, d) => bytes.length + uptoBulk d + 1
  | (_, d) => uptoBulk d + 1
 end
def uptoSmall : (H : Type) → List (DataW H) → Bool := fun _ ds => decide (uptoBulkAll ds ≤ 1048576)
def OpenSpec.upto (s : _root_.Go.ChangeSpec) : _root_.Go.OpenSpec := { _root_.Go.OpenSpec.ofChange s with cond := some uptoSmall }

/-- 'assizelaw10.SourceTells', WHERE WHAT IT READS IS OF BULK AT MOST 1048576: true; the input reads as it did. -/
def sourceTellsUptoRow : OpenClaim := { program := "ytnlkggppokcmfaagreat", sum := "a0fa897c7745e4a3d0eb965930985d47d0927856e4537f2c53339708cab92425", func := "assize/assizelaw10.SourceTells", spec := "sourceTells", unfollowed := true, recurses := true, plainKeys := false, apart := false, narrowed := true }
def SourceTellsUptoSaid : Prop := sourceTellsUptoRow.holds Tryz.pinned (OpenSpec.upto sourceTellsSpec)

/-- 'assizelaw10.SourceOdd', WHERE WHAT IT READS IS OF BULK AT MOST 1048576: true; the input reads as it did. -/
def sourceOddUptoRow : OpenClaim := { program := "ytnlkggppokcmfaagreat", sum := "a0fa897c7745e4a3d0eb965930985d47d0927856e4537f2c53339708cab92425", func := "assize/assizelaw10.SourceOdd", spec := "sourceOdd", unfollowed := true, recurses := true, plainKeys := false, apart := false, narrowed := true }
def SourceOddUptoSaid : Prop := sourceOddUptoRow.holds Tryz.pinned (OpenSpec.upto sourceOddSpec)

/-- 'assizelaw10.SourceKeeps', WHERE WHAT IT READS IS OF BULK AT MOST 1048576: true; the input reads as it did. -/
def sourceKeepsUptoRow : OpenClaim := { program := "ytnlkggppokcmfaagreat", sum := "a0fa897c7745e4a3d0eb965930985d47d0927856e4537f2c53339708cab92425", func := "assize/assizelaw10.SourceKeeps", spec := "sourceKeeps", unfollowed := true, recurses := true, plainKeys := false, apart := false, narrowed := true }
def SourceKeepsUptoSaid : Prop := sourceKeepsUptoRow.holds Tryz.pinned (OpenSpec.upto sourceKeepsSpec)

/-- 'assizelaw11.ExecWhy', WHERE WHAT IT READS IS OF BULK AT MOST 1048576: true; the input reads as it did. -/
def execWhyUptoRow : OpenClaim := { program := "ytnlkggppokcmfaagreat", sum := "a0fa897c7745e4a3d0eb965930985d47d0927856e4537f2c53339708cab92425", func := "assize/assizelaw11.ExecWhy", spec := "execWhy", unfollowed := true, recurses := true, plainKeys := false, apart := false, narrowed := true }
def ExecWhyUptoSaid : Prop := execWhyUptoRow.holds Tryz.pinned (OpenSpec.upto execWhySpec)

end Rows
end Go.Proofs.YtnlkggppokcmfaaGreat
