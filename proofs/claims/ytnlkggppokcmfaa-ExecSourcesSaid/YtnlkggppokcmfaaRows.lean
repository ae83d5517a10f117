/-
  No cell of these rows narrows 'for every input' (looked for: loops, veiled, ifaces, maps, wideKeys, modest, calm, conditions, laid).
  DERIVED. THE GIVEN ROWS OF THIS SEAT. 7 by the template 'for every input the law returns true; each argument reads behind the call as it read before'; 0 by the template 'total and deterministic' (their statements: YtnlkggppokcmfaaTotals.lean).
  GIVEN WITH THE SEED: the statements are not yours to turn. If you find one false, say at which input.
  Laid BY PROGRAM, IN A SANDBOX (cutbox-rows.mjs): the forced cells as the released guide's own fill.sh prints them over the translation 945035ea181f97e2… (all of the seat's roots in one cut). By AI agents, Wed Nov 11 2026. No macro, syntax, notation, axiom, sorry.
-/
import Derived.Test.YtnlkggppokcmfaaChecked
import GoSem.Claim
import GoSem.ClaimJoined
import GoSem.ClaimMapViews
import Derived.JoinedTies
import Derived.KernelRfl
namespace Go.Proofs.Ytnlkggppokcmfaa
/- THE CELL 'sum', in the pinned program and in every row, IS THE sha256 OF THE DUMP (.gsa) THAT YtnlkggppokcmfaaProg.lean LOADS. Nothing in Lean hashes anything: it is a label: what it is worth is what the hold of that sum in a sandbox is worth. -/
noncomputable def Try.pinned : Pinned := { name := "ytnlkggppokcmfaa", sum := "945035ea181f97e2a0a61d7247b0401332779993dc87bb686098907a92330874", checked := Try.checked }
namespace Rows
def none {H : Type} : Left H := { results := [], args := [] }

/-- 'assizelaw10.SourceEmpty': WHATEVER THE INPUT: true; the input reads as it did. -/
def sourceEmptySpec : ChangeSpec := { name := "sourceEmpty", fn := fun _ => fun
  | [d] => { results := [.lit (.bool true)], args := [d] }
  | _ => none }
def sourceEmptyRow : OpenClaim := { program := "ytnlkggppokcmfaa", sum := "945035ea181f97e2a0a61d7247b0401332779993dc87bb686098907a92330874", func := "assize/assizelaw10.SourceEmpty", spec := "sourceEmpty", unfollowed := true, recurses := true, plainKeys := false, apart := false }
def SourceEmptySaid : Prop := sourceEmptyRow.holds Try.pinned (OpenSpec.ofChange sourceEmptySpec)

/-- ITS FALSE NEIGHBOUR: 'it returns false'. Refute it at one input. -/
def sourceEmptyWrong : ChangeSpec := { name := "sourceEmpty", fn := fun _ => fun
  | [d] => { results := [.lit (.bool false)], args := [d] }
  | _ => none }
def SourceEmptyWrongFalsely : Prop := sourceEmptyRow.holds Try.pinned (OpenSpec.ofChange sourceEmptyWrong)

/-- 'assizelaw10.SourceMore': WHATEVER THE INPUT: true; the input reads as it did. -/
def sourceMoreSpec : ChangeSpec := { name := "sourceMore", fn := fun _ => fun
  | [d1, d2, d3] => { results := [.lit (.bool true)], args := [d1, d2, d3] }
  | _ => none }
def sourceMoreRow : OpenClaim := { program := "ytnlkggppokcmfaa", sum := "945035ea181f97e2a0a61d7247b0401332779993dc87bb686098907a92330874", func := "assize/assizelaw10.SourceMore", spec := "sourceMore", unfollowed := true, recurses := true, plainKeys := false, apart := false }
def SourceMoreSaid : Prop := sourceMoreRow.holds Try.pinned (OpenSpec.ofChange sourceMoreSpec)

/-- ITS FALSE NEIGHBOUR: 'it returns false'. Refute it at one input. -/
def sourceMoreWrong : ChangeSpec := { name := "sourceMore", fn := fun _ => fun
  | [d1, d2, d3] => { results := [.lit (.bool false)], args := [d1, d2, d3] }
  | _ => none }
def SourceMoreWrongFalsely : Prop := sourceMoreRow.holds Try.pinned (OpenSpec.ofChange sourceMoreWrong)

/-- 'assizelaw10.SourceWrote': WHATEVER THE INPUT: true; the input reads as it did. -/
def sourceWroteSpec : ChangeSpec := { name := "sourceWrote", fn := fun _ => fun
  | [d1, d2] => { results := [.lit (.bool true)], args := [d1, d2] }
  | _ => none }
def sourceWroteRow : OpenClaim := { program := "ytnlkggppokcmfaa", sum := "945035ea181f97e2a0a61d7247b0401332779993dc87bb686098907a92330874", func := "assize/assizelaw10.SourceWrote", spec := "sourceWrote", unfollowed := true, recurses := true, plainKeys := false, apart := false }
def SourceWroteSaid : Prop := sourceWroteRow.holds Try.pinned (OpenSpec.ofChange sourceWroteSpec)

/-- ITS FALSE NEIGHBOUR: 'it returns false'. Refute it at one input. -/
def sourceWroteWrong : ChangeSpec := { name := "sourceWrote", fn := fun _ => fun
  | [d1, d2] => { results := [.lit (.bool false)], args := [d1, d2] }
  | _ => none }
def SourceWroteWrongFalsely : Prop := sourceWroteRow.holds Try.pinned (OpenSpec.ofChange sourceWroteWrong)

/-- 'assizelaw11.ExecWithout': WHATEVER THE INPUT: true; the input reads as it did. -/
def execWithoutSpec : ChangeSpec := { name := "execWithout", fn := fun _ => fun
  | [d1, d2, d3] => { results := [.lit (.bool true)], args := [d1, d2, d3] }
  | _ => none }
def execWithoutRow : OpenClaim := { program := "ytnlkggppokcmfaa", sum := "945035ea181f97e2a0a61d7247b0401332779993dc87bb686098907a92330874", func := "assize/assizelaw11.ExecWithout", spec := "execWithout", unfollowed := true, recurses := true, plainKeys := false, apart := false }
def ExecWithoutSaid : Prop := execWithoutRow.holds Try.pinned (OpenSpec.ofChange execWithoutSpec)

/-- ITS FALSE NEIGHBOUR: 'it returns false'. Refute it at one input. -/
def execWithoutWrong : ChangeSpec := { name := "execWithout", fn := fun _ => fun
  | [d1, d2, d3] => { results := [.lit (.bool false)], args := [d1, d2, d3] }
  | _ => none }
def ExecWithoutWrongFalsely : Prop := execWithoutRow.holds Try.pinned (OpenSpec.ofChange execWithoutWrong)

/-- 'assizelaw11.ExecLonger': WHATEVER THE INPUT: true; the input reads as it did. -/
def execLongerSpec : ChangeSpec := { name := "execLonger", fn := fun _ => fun
  | [d1, d2, d3] => { results := [.lit (.bool true)], args := [d1, d2, d3] }
  | _ => none }
def execLongerRow : OpenClaim := { program := "ytnlkggppokcmfaa", sum := "945035ea181f97e2a0a61d7247b0401332779993dc87bb686098907a92330874", func := "assize/assizelaw11.ExecLonger", spec := "execLonger", unfollowed := true, recurses := true, plainKeys := false, apart := false }
def ExecLongerSaid : Prop := execLongerRow.holds Try.pinned (OpenSpec.ofChange execLongerSpec)

/-- ITS FALSE NEIGHBOUR: 'it returns false'. Refute it at one input. -/
def execLongerWrong : ChangeSpec := { name := "execLonger", fn := fun _ => fun
  | [d1, d2, d3] => { results := [.lit (.bool false)], args := [d1, d2, d3] }
  | _ => none }
def ExecLongerWrongFalsely : Prop := execLongerRow.holds Try.pinned (OpenSpec.ofChange execLongerWrong)

/-- 'assizelaw11.ExecVersions': WHATEVER THE INPUT: true; the input reads as it did. -/
def execVersionsSpec : ChangeSpec := { name := "execVersions", fn := fun _ => fun
  | [d1, d2, d3] => { results := [.lit (.bool true)], args := [d1, d2, d3] }
  | _ => none }
def execVersionsRow : OpenClaim := { program := "ytnlkggppokcmfaa", sum := "945035ea181f97e2a0a61d7247b0401332779993dc87bb686098907a92330874", func := "assize/assizelaw11.ExecVersions", spec := "execVersions", unfollowed := true, recurses := true, plainKeys := false, apart := false }
def ExecVersionsSaid : Prop := execVersionsRow.holds Try.pinned (OpenSpec.ofChange execVersionsSpec)

/-- ITS FALSE NEIGHBOUR: 'it returns false'. Refute it at one input. -/
def execVersionsWrong : ChangeSpec := { name := "execVersions", fn := fun _ => fun
  | [d1, d2, d3] => { results := [.lit (.bool false)], args := [d1, d2, d3] }
  | _ => none }
def ExecVersionsWrongFalsely : Prop := execVersionsRow.holds Try.pinned (OpenSpec.ofChange execVersionsWrong)

/-- 'assizelaw11.ExecSources': WHATEVER THE INPUT: true; the input reads as it did. -/
def execSourcesSpec : ChangeSpec := { name := "execSources", fn := fun _ => fun
  | [d1, d2] => { results := [.lit (.bool true)], args := [d1, d2] }
  | _ => none }
def execSourcesRow : OpenClaim := { program := "ytnlkggppokcmfaa", sum := "945035ea181f97e2a0a61d7247b0401332779993dc87bb686098907a92330874", func := "assize/assizelaw11.ExecSources", spec := "execSources", unfollowed := true, recurses := true, plainKeys := false, apart := false }
def ExecSourcesSaid : Prop := execSourcesRow.holds Try.pinned (OpenSpec.ofChange execSourcesSpec)

/-- ITS FALSE NEIGHBOUR: 'it returns false'. Refute it at one input. -/
def execSourcesWrong : ChangeSpec := { name := "execSources", fn := fun _ => fun
  | [d1, d2] => { results := [.lit (.bool false)], args := [d1, d2] }
  | _ => none }
def ExecSourcesWrongFalsely : Prop := execSourcesRow.holds Try.pinned (OpenSpec.ofChange execSourcesWrong)

/- THE SECOND FORM. 'bulk': how many values and letters a reading holds, each counted each time it is reached (what is shared counts as often as it is met; a slice's spare places count too). A statement '..UptoSaid' is the law's where the arguments, and the package variables that the reading takes, are together of bulk at most 1048576: NARROWER than '..Said'. Prove '..Said' where nothing that the law and all that it calls make is longer than what came in: it says more and counts as full. Else prove '..UptoSaid'. A law counts once. -/
mutual
def uptoBulk {H : Type} : DataW H → Nat
  | .lit (.string bytes) => bytes.length + 1
  | .lit _ => 1
  | .nil => 1
  | .ptr d => uptoBulk d + 1
  | .slice elems spare => uptoBulkAll elems + uptoBulkAll spare + 1
  | .agg parts => uptoBulkAll parts + 1
  | .iface _ d => uptoBulk d + 1
  | .map entries => uptoBulkEntries entries + 1
  | .held _ => 1
def uptoBulkAll {H : Type} : List (DataW H) → Nat
  | [] => 0
  | d :: r => uptoBulk d + uptoBulkAll r
def uptoBulkEntries {H : Type} : List (Lit × DataW H) → Nat
  | [] => 0
  | x :: r => uptoBulkEntry x + uptoBulkEntries r
def uptoBulkEntry {H : Type} : Lit × DataW H → Nat
  | (.string bytes, d) => bytes.length + uptoBulk d + 1
  | (_, d) => uptoBulk d + 1
 end
def uptoSmall : (H : Type) → List (DataW H) → Bool := fun _ ds => decide (uptoBulkAll ds ≤ 1048576)
def OpenSpec.upto (s : _root_.Go.ChangeSpec) : _root_.Go.OpenSpec := { _root_.Go.OpenSpec.ofChange s with cond := some uptoSmall }

/-- 'assizelaw10.SourceEmpty', WHERE WHAT IT READS IS OF BULK AT MOST 1048576: true; the input reads as it did. -/
def sourceEmptyUptoRow : OpenClaim := { program := "ytnlkggppokcmfaa", sum := "945035ea181f97e2a0a61d7247b0401332779993dc87bb686098907a92330874", func := "assize/assizelaw10.SourceEmpty", spec := "sourceEmpty", unfollowed := true, recurses := true, plainKeys := false, apart := false, narrowed := true }
def SourceEmptyUptoSaid : Prop := sourceEmptyUptoRow.holds Try.pinned (OpenSpec.upto sourceEmptySpec)

/-- 'assizelaw10.SourceMore', WHERE WHAT IT READS IS OF BULK AT MOST 1048576: true; the input reads as it did. -/
def sourceMoreUptoRow : OpenClaim := { program := "ytnlkggppokcmfaa", sum := "945035ea181f97e2a0a61d7247b0401332779993dc87bb686098907a92330874", func := "assize/assizelaw10.SourceMore", spec := "sourceMore", unfollowed := true, recurses := true, plainKeys := false, apart := false, narrowed := true }
def SourceMoreUptoSaid : Prop := sourceMoreUptoRow.holds Try.pinned (OpenSpec.upto sourceMoreSpec)

/-- 'assizelaw10.SourceWrote', WHERE WHAT IT READS IS OF BULK AT MOST 1048576: true; the input reads as it did. -/
def sourceWroteUptoRow : OpenClaim := { program := "ytnlkggppokcmfaa", sum := "945035ea181f97e2a0a61d7247b0401332779993dc87bb686098907a92330874", func := "assize/assizelaw10.SourceWrote", spec := "sourceWrote", unfollowed := true, recurses := true, plainKeys := false, apart := false, narrowed := true }
def SourceWroteUptoSaid : Prop := sourceWroteUptoRow.holds Try.pinned (OpenSpec.upto sourceWroteSpec)

/-- 'assizelaw11.ExecWithout', WHERE WHAT IT READS IS OF BULK AT MOST 1048576: true; the input reads as it did. -/
def execWithoutUptoRow : OpenClaim := { program := "ytnlkggppokcmfaa", sum := "945035ea181f97e2a0a61d7247b0401332779993dc87bb686098907a92330874", func := "assize/assizelaw11.ExecWithout", spec := "execWithout", unfollowed := true, recurses := true, plainKeys := false, apart := false, narrowed := true }
def ExecWithoutUptoSaid : Prop := execWithoutUptoRow.holds Try.pinned (OpenSpec.upto execWithoutSpec)

/-- 'assizelaw11.ExecLonger', WHERE WHAT IT READS IS OF BULK AT MOST 1048576: true; the input reads as it did. -/
def execLongerUptoRow : OpenClaim := { program := "ytnlkggppokcmfaa", sum := "945035ea181f97e2a0a61d7247b0401332779993dc87bb686098907a92330874", func := "assize/assizelaw11.ExecLonger", spec := "execLonger", unfollowed := true, recurses := true, plainKeys := false, apart := false, narrowed := true }
def ExecLongerUptoSaid : Prop := execLongerUptoRow.holds Try.pinned (OpenSpec.upto execLongerSpec)

/-- 'assizelaw11.ExecVersions', WHERE WHAT IT READS IS OF BULK AT MOST 1048576: true; the input reads as it did. -/
def execVersionsUptoRow : OpenClaim := { program := "ytnlkggppokcmfaa", sum := "945035ea181f97e2a0a61d7247b0401332779993dc87bb686098907a92330874", func := "assize/assizelaw11.ExecVersions", spec := "execVersions", unfollowed := true, recurses := true, plainKeys := false, apart := false, narrowed := true }
def ExecVersionsUptoSaid : Prop := execVersionsUptoRow.holds Try.pinned (OpenSpec.upto execVersionsSpec)

/-- 'assizelaw11.ExecSources', WHERE WHAT IT READS IS OF BULK AT MOST 1048576: true; the input reads as it did. -/
def execSourcesUptoRow : OpenClaim := { program := "ytnlkggppokcmfaa", sum := "945035ea181f97e2a0a61d7247b0401332779993dc87bb686098907a92330874", func := "assize/assizelaw11.ExecSources", spec := "execSources", unfollowed := true, recurses := true, plainKeys := false, apart := false, narrowed := true }
def ExecSourcesUptoSaid : Prop := execSourcesUptoRow.holds Try.pinned (OpenSpec.upto execSourcesSpec)

end Rows
end Go.Proofs.Ytnlkggppokcmfaa
