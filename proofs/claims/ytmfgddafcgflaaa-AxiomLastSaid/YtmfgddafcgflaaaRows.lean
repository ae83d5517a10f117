/-
  No cell of these rows narrows 'for every input' (looked for: loops, veiled, ifaces, maps, wideKeys, modest, calm, conditions, laid).
  DERIVED. THE GIVEN ROWS OF THIS SEAT. 3 by the template 'for every input the law returns true; each argument reads behind the call as it read before'; 0 by the template 'total and deterministic' (their statements: YtmfgddafcgflaaaTotals.lean).
  GIVEN WITH THE SEED: the statements are not yours to turn. If you find one false, say at which input.
  Laid BY PROGRAM, IN A SANDBOX (cutbox-rows.mjs): the forced cells as the released guide's own fill.sh prints them over the translation ea1b4f7875fa27f7… (all of the seat's roots in one cut). By AI agents, Wed Nov 11 2026. No macro, syntax, notation, axiom, sorry.
-/
import Derived.Test.YtmfgddafcgflaaaChecked
import GoSem.Claim
import GoSem.ClaimJoined
import GoSem.ClaimMapViews
import Derived.JoinedTies
import Derived.KernelRfl
namespace Go.Proofs.Ytmfgddafcgflaaa
/- THE CELL 'sum', in the pinned program and in every row, IS THE sha256 OF THE DUMP (.gsa) THAT YtmfgddafcgflaaaProg.lean LOADS. Nothing in Lean hashes anything: it is a label: what it is worth is what the hold of that sum in a sandbox is worth. -/
noncomputable def Try.pinned : Pinned := { name := "ytmfgddafcgflaaa", sum := "ea1b4f7875fa27f7378cfe6ee8afb888c9a1f8f666543a49b3d0b36e8af30e45", checked := Try.checked }
namespace Rows
def none {H : Type} : Left H := { results := [], args := [] }

/-- 'assizelaw12.AxiomLevels': WHATEVER THE INPUT: true; the input reads as it did. -/
def axiomLevelsSpec : ChangeSpec := { name := "axiomLevels", fn := fun _ => fun
  | [d1, d2] => { results := [.lit (.bool true)], args := [d1, d2] }
  | _ => none }
def axiomLevelsRow : OpenClaim := { program := "ytmfgddafcgflaaa", sum := "ea1b4f7875fa27f7378cfe6ee8afb888c9a1f8f666543a49b3d0b36e8af30e45", func := "assize/assizelaw12.AxiomLevels", spec := "axiomLevels", unfollowed := true, recurses := true, plainKeys := false, apart := false }
def AxiomLevelsSaid : Prop := axiomLevelsRow.holds Try.pinned (OpenSpec.ofChange axiomLevelsSpec)

/-- ITS FALSE NEIGHBOUR: 'it returns false'. Refute it at one input. -/
def axiomLevelsWrong : ChangeSpec := { name := "axiomLevels", fn := fun _ => fun
  | [d1, d2] => { results := [.lit (.bool false)], args := [d1, d2] }
  | _ => none }
def AxiomLevelsWrongFalsely : Prop := axiomLevelsRow.holds Try.pinned (OpenSpec.ofChange axiomLevelsWrong)

/-- 'assizelaw12.AxiomWithout': WHATEVER THE INPUT: true; the input reads as it did. -/
def axiomWithoutSpec : ChangeSpec := { name := "axiomWithout", fn := fun _ => fun
  | [d1, d2, d3] => { results := [.lit (.bool true)], args := [d1, d2, d3] }
  | _ => none }
def axiomWithoutRow : OpenClaim := { program := "ytmfgddafcgflaaa", sum := "ea1b4f7875fa27f7378cfe6ee8afb888c9a1f8f666543a49b3d0b36e8af30e45", func := "assize/assizelaw12.AxiomWithout", spec := "axiomWithout", unfollowed := true, recurses := true, plainKeys := false, apart := false }
def AxiomWithoutSaid : Prop := axiomWithoutRow.holds Try.pinned (OpenSpec.ofChange axiomWithoutSpec)

/-- ITS FALSE NEIGHBOUR: 'it returns false'. Refute it at one input. -/
def axiomWithoutWrong : ChangeSpec := { name := "axiomWithout", fn := fun _ => fun
  | [d1, d2, d3] => { results := [.lit (.bool false)], args := [d1, d2, d3] }
  | _ => none }
def AxiomWithoutWrongFalsely : Prop := axiomWithoutRow.holds Try.pinned (OpenSpec.ofChange axiomWithoutWrong)

/-- 'assizelaw12.AxiomLast': WHATEVER THE INPUT: true; the input reads as it did. -/
def axiomLastSpec : ChangeSpec := { name := "axiomLast", fn := fun _ => fun
  | [d1, d2] => { results := [.lit (.bool true)], args := [d1, d2] }
  | _ => none }
def axiomLastRow : OpenClaim := { program := "ytmfgddafcgflaaa", sum := "ea1b4f7875fa27f7378cfe6ee8afb888c9a1f8f666543a49b3d0b36e8af30e45", func := "assize/assizelaw12.AxiomLast", spec := "axiomLast", unfollowed := true, recurses := true, plainKeys := false, apart := false }
def AxiomLastSaid : Prop := axiomLastRow.holds Try.pinned (OpenSpec.ofChange axiomLastSpec)

/-- ITS FALSE NEIGHBOUR: 'it returns false'. Refute it at one input. -/
def axiomLastWrong : ChangeSpec := { name := "axiomLast", fn := fun _ => fun
  | [d1, d2] => { results := [.lit (.bool false)], args := [d1, d2] }
  | _ => none }
def AxiomLastWrongFalsely : Prop := axiomLastRow.holds Try.pinned (OpenSpec.ofChange axiomLastWrong)

/- THE SECOND FORM. 'bulk': how many values and letters a reading holds, each counted each time it is reached (what is shared counts as often as it is met; a slice's spare places count too). A statement '..UptoSaid' is the law's where the arguments, and the package variables that the reading takes, are together of bulk at most 1048576: NARROWER than '..Said'. Prove '..Said' where nothing that the law and all that it calls make is longer than what came in: it says more and counts as full. Else prove '..UptoSaid'. A law counts once. -/
mutual
def uptoBulk {H : Type} : DataW H → Nat
  | .lit (.string bytes) => bytes.length + 1
  | .lit _ => 1
  | .nil => 1
  | .ptr d => uptoBulk d + 1
  | .slice elems spare => uptoBulkAll elems + uptoBulkAll spare + 1
  | .agg parts => uptoBulkAll parts + 1
  | .iface _ d => uptoBulk d + 1
  | .map entries => uptoBulkEntries entries + 1
  | .held _ => 1
def uptoBulkAll {H : Type} : List (DataW H) → Nat
  | [] => 0
  | d :: r => uptoBulk d + uptoBulkAll r
def uptoBulkEntries {H : Type} : List (Lit × DataW H) → Nat
  | [] => 0
  | x :: r => uptoBulkEntry x + uptoBulkEntries r
def uptoBulkEntry {H : Type} : Lit × DataW H → Nat
  | (.string bytes, d) => bytes.length + uptoBulk d + 1
  | (_, d) => uptoBulk d + 1
 end
def uptoSmall : (H : Type) → List (DataW H) → Bool := fun _ ds => decide (uptoBulkAll ds ≤ 1048576)
def OpenSpec.upto (s : _root_.Go.ChangeSpec) : _root_.Go.OpenSpec := { _root_.Go.OpenSpec.ofChange s with cond := some uptoSmall }

/-- 'assizelaw12.AxiomLevels', WHERE WHAT IT READS IS OF BULK AT MOST 1048576: true; the input reads as it did. -/
def axiomLevelsUptoRow : OpenClaim := { program := "ytmfgddafcgflaaa", sum := "ea1b4f7875fa27f7378cfe6ee8afb888c9a1f8f666543a49b3d0b36e8af30e45", func := "assize/assizelaw12.AxiomLevels", spec := "axiomLevels", unfollowed := true, recurses := true, plainKeys := false, apart := false, narrowed := true }
def AxiomLevelsUptoSaid : Prop := axiomLevelsUptoRow.holds Try.pinned (OpenSpec.upto axiomLevelsSpec)

/-- 'assizelaw12.AxiomWithout', WHERE WHAT IT READS IS OF BULK AT MOST 1048576: true; the input reads as it did. -/
def axiomWithoutUptoRow : OpenClaim := { program := "ytmfgddafcgflaaa", sum := "ea1b4f7875fa27f7378cfe6ee8afb888c9a1f8f666543a49b3d0b36e8af30e45", func := "assize/assizelaw12.AxiomWithout", spec := "axiomWithout", unfollowed := true, recurses := true, plainKeys := false, apart := false, narrowed := true }
def AxiomWithoutUptoSaid : Prop := axiomWithoutUptoRow.holds Try.pinned (OpenSpec.upto axiomWithoutSpec)

/-- 'assizelaw12.AxiomLast', WHERE WHAT IT READS IS OF BULK AT MOST 1048576: true; the input reads as it did. -/
def axiomLastUptoRow : OpenClaim := { program := "ytmfgddafcgflaaa", sum := "ea1b4f7875fa27f7378cfe6ee8afb888c9a1f8f666543a49b3d0b36e8af30e45", func := "assize/assizelaw12.AxiomLast", spec := "axiomLast", unfollowed := true, recurses := true, plainKeys := false, apart := false, narrowed := true }
def AxiomLastUptoSaid : Prop := axiomLastUptoRow.holds Try.pinned (OpenSpec.upto axiomLastSpec)

end Rows
end Go.Proofs.Ytmfgddafcgflaaa
