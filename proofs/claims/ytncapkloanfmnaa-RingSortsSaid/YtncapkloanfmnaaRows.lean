/-
  No cell of these rows narrows 'for every input' (looked for: loops, veiled, ifaces, maps, wideKeys, modest, calm, conditions, laid).
  DERIVED. THE GIVEN ROWS OF THIS SEAT. 5 by the template 'for every input the law returns true; each argument reads behind the call as it read before'; 0 by the template 'total and deterministic' (their statements: YtncapkloanfmnaaTotals.lean).
  GIVEN WITH THE SEED: the statements are not yours to turn. If you find one false, say at which input.
  Laid BY PROGRAM, IN A SANDBOX (cutbox-rows.mjs): the forced cells as the released guide's own fill.sh prints them over the translation eb61e92734857011… (all of the seat's roots in one cut). By AI agents, Wed Nov 11 2026. No macro, syntax, notation, axiom, sorry.
-/
import Derived.Test.YtncapkloanfmnaaChecked
import GoSem.Claim
import GoSem.ClaimJoined
import GoSem.ClaimMapViews
import Derived.JoinedTies
import Derived.KernelRfl
namespace Go.Proofs.Ytncapkloanfmnaa
/- THE CELL 'sum', in the pinned program and in every row, IS THE sha256 OF THE DUMP (.gsa) THAT YtncapkloanfmnaaProg.lean LOADS. Nothing in Lean hashes anything: it is a label: what it is worth is what the hold of that sum in a sandbox is worth. -/
noncomputable def Try.pinned : Pinned := { name := "ytncapkloanfmnaa", sum := "eb61e927348570118407e073519da0014b49b69f4462dc053dc856c70c572b4c", checked := Try.checked }
namespace Rows
def none {H : Type} : Left H := { results := [], args := [] }

/-- 'assizelaw07.RingTells': WHATEVER THE INPUT: true; the input reads as it did. -/
def ringTellsSpec : ChangeSpec := { name := "ringTells", fn := fun _ => fun
  | [d1, d2, d3] => { results := [.lit (.bool true)], args := [d1, d2, d3] }
  | _ => none }
def ringTellsRow : OpenClaim := { program := "ytncapkloanfmnaa", sum := "eb61e927348570118407e073519da0014b49b69f4462dc053dc856c70c572b4c", func := "assize/assizelaw07.RingTells", spec := "ringTells", unfollowed := true, recurses := true, plainKeys := false, apart := false }
def RingTellsSaid : Prop := ringTellsRow.holds Try.pinned (OpenSpec.ofChange ringTellsSpec)

/-- ITS FALSE NEIGHBOUR: 'it returns false'. Refute it at one input. -/
def ringTellsWrong : ChangeSpec := { name := "ringTells", fn := fun _ => fun
  | [d1, d2, d3] => { results := [.lit (.bool false)], args := [d1, d2, d3] }
  | _ => none }
def RingTellsWrongFalsely : Prop := ringTellsRow.holds Try.pinned (OpenSpec.ofChange ringTellsWrong)

/-- 'assizelaw07.RingFits': WHATEVER THE INPUT: true; the input reads as it did. -/
def ringFitsSpec : ChangeSpec := { name := "ringFits", fn := fun _ => fun
  | [d1, d2, d3] => { results := [.lit (.bool true)], args := [d1, d2, d3] }
  | _ => none }
def ringFitsRow : OpenClaim := { program := "ytncapkloanfmnaa", sum := "eb61e927348570118407e073519da0014b49b69f4462dc053dc856c70c572b4c", func := "assize/assizelaw07.RingFits", spec := "ringFits", unfollowed := true, recurses := true, plainKeys := false, apart := false }
def RingFitsSaid : Prop := ringFitsRow.holds Try.pinned (OpenSpec.ofChange ringFitsSpec)

/-- ITS FALSE NEIGHBOUR: 'it returns false'. Refute it at one input. -/
def ringFitsWrong : ChangeSpec := { name := "ringFits", fn := fun _ => fun
  | [d1, d2, d3] => { results := [.lit (.bool false)], args := [d1, d2, d3] }
  | _ => none }
def RingFitsWrongFalsely : Prop := ringFitsRow.holds Try.pinned (OpenSpec.ofChange ringFitsWrong)

/-- 'assizelaw07.RingLeastAll': WHATEVER THE INPUT: true; the input reads as it did. -/
def ringLeastAllSpec : ChangeSpec := { name := "ringLeastAll", fn := fun _ => fun
  | [d1, d2] => { results := [.lit (.bool true)], args := [d1, d2] }
  | _ => none }
def ringLeastAllRow : OpenClaim := { program := "ytncapkloanfmnaa", sum := "eb61e927348570118407e073519da0014b49b69f4462dc053dc856c70c572b4c", func := "assize/assizelaw07.RingLeastAll", spec := "ringLeastAll", unfollowed := true, recurses := true, plainKeys := false, apart := false }
def RingLeastAllSaid : Prop := ringLeastAllRow.holds Try.pinned (OpenSpec.ofChange ringLeastAllSpec)

/-- ITS FALSE NEIGHBOUR: 'it returns false'. Refute it at one input. -/
def ringLeastAllWrong : ChangeSpec := { name := "ringLeastAll", fn := fun _ => fun
  | [d1, d2] => { results := [.lit (.bool false)], args := [d1, d2] }
  | _ => none }
def RingLeastAllWrongFalsely : Prop := ringLeastAllRow.holds Try.pinned (OpenSpec.ofChange ringLeastAllWrong)

/-- 'assizelaw07.RingSorts': WHATEVER THE INPUT: true; the input reads as it did. -/
def ringSortsSpec : ChangeSpec := { name := "ringSorts", fn := fun _ => fun
  | [d1, d2, d3] => { results := [.lit (.bool true)], args := [d1, d2, d3] }
  | _ => none }
def ringSortsRow : OpenClaim := { program := "ytncapkloanfmnaa", sum := "eb61e927348570118407e073519da0014b49b69f4462dc053dc856c70c572b4c", func := "assize/assizelaw07.RingSorts", spec := "ringSorts", unfollowed := true, recurses := true, plainKeys := false, apart := false }
def RingSortsSaid : Prop := ringSortsRow.holds Try.pinned (OpenSpec.ofChange ringSortsSpec)

/-- ITS FALSE NEIGHBOUR: 'it returns false'. Refute it at one input. -/
def ringSortsWrong : ChangeSpec := { name := "ringSorts", fn := fun _ => fun
  | [d1, d2, d3] => { results := [.lit (.bool false)], args := [d1, d2, d3] }
  | _ => none }
def RingSortsWrongFalsely : Prop := ringSortsRow.holds Try.pinned (OpenSpec.ofChange ringSortsWrong)

/-- 'assizelaw07.RingTurned': WHATEVER THE INPUT: true; the input reads as it did. -/
def ringTurnedSpec : ChangeSpec := { name := "ringTurned", fn := fun _ => fun
  | [d1, d2, d3] => { results := [.lit (.bool true)], args := [d1, d2, d3] }
  | _ => none }
def ringTurnedRow : OpenClaim := { program := "ytncapkloanfmnaa", sum := "eb61e927348570118407e073519da0014b49b69f4462dc053dc856c70c572b4c", func := "assize/assizelaw07.RingTurned", spec := "ringTurned", unfollowed := true, recurses := true, plainKeys := false, apart := false }
def RingTurnedSaid : Prop := ringTurnedRow.holds Try.pinned (OpenSpec.ofChange ringTurnedSpec)

/-- ITS FALSE NEIGHBOUR: 'it returns false'. Refute it at one input. -/
def ringTurnedWrong : ChangeSpec := { name := "ringTurned", fn := fun _ => fun
  | [d1, d2, d3] => { results := [.lit (.bool false)], args := [d1, d2, d3] }
  | _ => none }
def RingTurnedWrongFalsely : Prop := ringTurnedRow.holds Try.pinned (OpenSpec.ofChange ringTurnedWrong)

/- THE SECOND FORM. 'bulk': how many values and letters a reading holds, each counted each time it is reached (what is shared counts as often as it is met; a slice's spare places count too). A statement '..UptoSaid' is the law's where the arguments, and the package variables that the reading takes, are together of bulk at most 1048576: NARROWER than '..Said'. Prove '..Said' where nothing that the law and all that it calls make is longer than what came in: it says more and counts as full. Else prove '..UptoSaid'. A law counts once. -/
mutual
def uptoBulk {H : Type} : DataW H → Nat
  | .lit (.string bytes) => bytes.length + 1
  | .lit _ => 1
  | .nil => 1
  | .ptr d => uptoBulk d + 1
  | .slice elems spare => uptoBulkAll elems + uptoBulkAll spare + 1
  | .agg parts => uptoBulkAll parts + 1
  | .iface _ d => uptoBulk d + 1
  | .map entries => uptoBulkEntries entries + 1
  | .held _ => 1
def uptoBulkAll {H : Type} : List (DataW H) → Nat
  | [] => 0
  | d :: r => uptoBulk d + uptoBulkAll r
def uptoBulkEntries {H : Type} : List (Lit × DataW H) → Nat
  | [] => 0
  | x :: r => uptoBulkEntry x + uptoBulkEntries r
def uptoBulkEntry {H : Type} : Lit × DataW H → Nat
  | (.string bytes, d) => bytes.length + uptoBulk d + 1
  | (_, d) => uptoBulk d + 1
 end
def uptoSmall : (H : Type) → List (DataW H) → Bool := fun _ ds => decide (uptoBulkAll ds ≤ 1048576)
def OpenSpec.upto (s : _root_.Go.ChangeSpec) : _root_.Go.OpenSpec := { _root_.Go.OpenSpec.ofChange s with cond := some uptoSmall }

/-- 'assizelaw07.RingTells', WHERE WHAT IT READS IS OF BULK AT MOST 1048576: true; the input reads as it did. -/
def ringTellsUptoRow : OpenClaim := { program := "ytncapkloanfmnaa", sum := "eb61e927348570118407e073519da0014b49b69f4462dc053dc856c70c572b4c", func := "assize/assizelaw07.RingTells", spec := "ringTells", unfollowed := true, recurses := true, plainKeys := false, apart := false, narrowed := true }
def RingTellsUptoSaid : Prop := ringTellsUptoRow.holds Try.pinned (OpenSpec.upto ringTellsSpec)

/-- 'assizelaw07.RingFits', WHERE WHAT IT READS IS OF BULK AT MOST 1048576: true; the input reads as it did. -/
def ringFitsUptoRow : OpenClaim := { program := "ytncapkloanfmnaa", sum := "eb61e927348570118407e073519da0014b49b69f4462dc053dc856c70c572b4c", func := "assize/assizelaw07.RingFits", spec := "ringFits", unfollowed := true, recurses := true, plainKeys := false, apart := false, narrowed := true }
def RingFitsUptoSaid : Prop := ringFitsUptoRow.holds Try.pinned (OpenSpec.upto ringFitsSpec)

/-- 'assizelaw07.RingLeastAll', WHERE WHAT IT READS IS OF BULK AT MOST 1048576: true; the input reads as it did. -/
def ringLeastAllUptoRow : OpenClaim := { program := "ytncapkloanfmnaa", sum := "eb61e927348570118407e073519da0014b49b69f4462dc053dc856c70c572b4c", func := "assize/assizelaw07.RingLeastAll", spec := "ringLeastAll", unfollowed := true, recurses := true, plainKeys := false, apart := false, narrowed := true }
def RingLeastAllUptoSaid : Prop := ringLeastAllUptoRow.holds Try.pinned (OpenSpec.upto ringLeastAllSpec)

/-- 'assizelaw07.RingSorts', WHERE WHAT IT READS IS OF BULK AT MOST 1048576: true; the input reads as it did. -/
def ringSortsUptoRow : OpenClaim := { program := "ytncapkloanfmnaa", sum := "eb61e927348570118407e073519da0014b49b69f4462dc053dc856c70c572b4c", func := "assize/assizelaw07.RingSorts", spec := "ringSorts", unfollowed := true, recurses := true, plainKeys := false, apart := false, narrowed := true }
def RingSortsUptoSaid : Prop := ringSortsUptoRow.holds Try.pinned (OpenSpec.upto ringSortsSpec)

/-- 'assizelaw07.RingTurned', WHERE WHAT IT READS IS OF BULK AT MOST 1048576: true; the input reads as it did. -/
def ringTurnedUptoRow : OpenClaim := { program := "ytncapkloanfmnaa", sum := "eb61e927348570118407e073519da0014b49b69f4462dc053dc856c70c572b4c", func := "assize/assizelaw07.RingTurned", spec := "ringTurned", unfollowed := true, recurses := true, plainKeys := false, apart := false, narrowed := true }
def RingTurnedUptoSaid : Prop := ringTurnedUptoRow.holds Try.pinned (OpenSpec.upto ringTurnedSpec)

end Rows
end Go.Proofs.Ytncapkloanfmnaa
