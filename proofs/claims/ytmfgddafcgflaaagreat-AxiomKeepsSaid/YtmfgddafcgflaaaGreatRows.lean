/-
  No cell of these rows narrows 'for every input' (looked for: loops, veiled, ifaces, maps, wideKeys, modest, calm, conditions, laid).
  DERIVED. THE GIVEN ROWS OF THIS SEAT. 2 by the template 'for every input the law returns true; each argument reads behind the call as it read before'; 0 by the template 'total and deterministic' (their statements: YtmfgddafcgflaaaGreatTotals.lean).
  GIVEN WITH THE SEED: the statements are not yours to turn. If you find one false, say at which input.
  Laid BY PROGRAM, IN A SANDBOX (cutbox-rows.mjs): the forced cells as the released guide's own fill.sh prints them over the translation d6cb74fd875bcf6b… (all of the seat's roots in one cut). By AI agents, Wed Nov 11 2026. No macro, syntax, notation, axiom, sorry.
-/
import Derived.Test.YtmfgddafcgflaaaGreatChecked
import GoSem.Claim
import GoSem.ClaimJoined
import GoSem.ClaimMapViews
import Derived.JoinedTies
import Derived.KernelRfl
namespace Go.Proofs.YtmfgddafcgflaaaGreat
/- THE CELL 'sum', in the pinned program and in every row, IS THE sha256 OF THE DUMP (.gsa) THAT YtmfgddafcgflaaaGreatProg.lean LOADS. Nothing in Lean hashes anything: it is a label: what it is worth is what the hold of that sum in a sandbox is worth. -/
noncomputable def Tryz.pinned : Pinned := { name := "ytmfgddafcgflaaagreat", sum := "d6cb74fd875bcf6ba2e3ec76616838a0cd9317cf5851ccf88a9add2656f1e9be", checked := Tryz.checked }
namespace Rows
def none {H : Type} : Left H := { results := [], args := [] }

/-- 'assizelaw12.AxiomBreaches': WHATEVER THE INPUT: true; the input reads as it did. -/
def axiomBreachesSpec : ChangeSpec := { name := "axiomBreaches", fn := fun _ => fun
  | [d1, d2, d3] => { results := [.lit (.bool true)], args := [d1, d2, d3] }
  | _ => none }
def axiomBreachesRow : OpenClaim := { program := "ytmfgddafcgflaaagreat", sum := "d6cb74fd875bcf6ba2e3ec76616838a0cd9317cf5851ccf88a9add2656f1e9be", func := "assize/assizelaw12.AxiomBreaches", spec := "axiomBreaches", unfollowed := true, recurses := true, plainKeys := false, apart := false }
def AxiomBreachesSaid : Prop := axiomBreachesRow.holds Tryz.pinned (OpenSpec.ofChange axiomBreachesSpec)

/-- ITS FALSE NEIGHBOUR: 'it returns false'. Refute it at one input. -/
def axiomBreachesWrong : ChangeSpec := { name := "axiomBreaches", fn := fun _ => fun
  | [d1, d2, d3] => { results := [.lit (.bool false)], args := [d1, d2, d3] }
  | _ => none }
def AxiomBreachesWrongFalsely : Prop := axiomBreachesRow.holds Tryz.pinned (OpenSpec.ofChange axiomBreachesWrong)

/-- 'assizelaw12.AxiomKeeps': WHATEVER THE INPUT: true; the input reads as it did. -/
def axiomKeepsSpec : ChangeSpec := { name := "axiomKeeps", fn := fun _ => fun
  | [d1, d2, d3] => { results := [.lit (.bool true)], args := [d1, d2, d3] }
  | _ => none }
def axiomKeepsRow : OpenClaim := { program := "ytmfgddafcgflaaagreat", sum := "d6cb74fd875bcf6ba2e3ec76616838a0cd9317cf5851ccf88a9add2656f1e9be", func := "assize/assizelaw12.AxiomKeeps", spec := "axiomKeeps", unfollowed := true, recurses := true, plainKeys := false, apart := false }
def AxiomKeepsSaid : Prop := axiomKeepsRow.holds Tryz.pinned (OpenSpec.ofChange axiomKeepsSpec)

/-- ITS FALSE NEIGHBOUR: 'it returns false'. Refute it at one input. -/
def axiomKeepsWrong : ChangeSpec := { name := "axiomKeeps", fn := fun _ => fun
  | [d1, d2, d3] => { results := [.lit (.bool false)], args := [d1, d2, d3] }
  | _ => none }
def AxiomKeepsWrongFalsely : Prop := axiomKeepsRow.holds Tryz.pinned (OpenSpec.ofChange axiomKeepsWrong)

/- THE SECOND FORM. 'bulk': how many values and letters a reading holds, each counted each time it is reached (what is shared counts as often as it is met; a slice's spare places count too). A statement '..UptoSaid' is the law's where the arguments, and the package variables that the reading takes, are together of bulk at most 1048576: NARROWER than '..Said'. Prove '..Said' where nothing that the law and all that it calls make is longer than what came in: it says more and counts as full. Else prove '..UptoSaid'. A law counts once. -/
mutual
def uptoBulk {H : Type} : DataW H → Nat
  | .lit (.string bytes) => bytes.length + 1
  | .lit _ => 1
  | .nil => 1
  | .ptr d => uptoBulk d + 1
  | .slice elems spare => uptoBulkAll elems + uptoBulkAll spare + 1
  | .agg parts => uptoBulkAll parts + 1
  | .iface _ d => uptoBulk d + 1
  | .map entries => uptoBulkEntries entries + 1
  | .held _ => 1
def uptoBulkAll {H : Type} : List (DataW H) → Nat
  | [] => 0
  | d :: r => uptoBulk d + uptoBulkAll r
def uptoBulkEntries {H : Type} : List (Lit × DataW H) → Nat
  | [] => 0
  | x :: r => uptoBulkEntry x + uptoBulkEntries r
def uptoBulkEntry {H : Type} : Lit × DataW H → Nat
  | (.string bytes, d) => bytes.length + uptoBulk d + 1
  | (_, d) => uptoBulk d + 1
 end
def uptoSmall : (H : Type) → List (DataW H) → Bool := fun _ ds => decide (uptoBulkAll ds ≤ 1048576)
def OpenSpec.upto (s : _root_.Go.ChangeSpec) : _root_.Go.OpenSpec := { _root_.Go.OpenSpec.ofChange s with cond := some uptoSmall }

/-- 'assizelaw12.AxiomBreaches', WHERE WHAT IT READS IS OF BULK AT MOST 1048576: true; the input reads as it did. -/
def axiomBreachesUptoRow : OpenClaim := { program := "ytmfgddafcgflaaagreat", sum := "d6cb74fd875bcf6ba2e3ec76616838a0cd9317cf5851ccf88a9add2656f1e9be", func := "assize/assizelaw12.AxiomBreaches", spec := "axiomBreaches", unfollowed := true, recurses := true, plainKeys := false, apart := false, narrowed := true }
def AxiomBreachesUptoSaid : Prop := axiomBreachesUptoRow.holds Tryz.pinned (OpenSpec.upto axiomBreachesSpec)

/-- 'assizelaw12.AxiomKeeps', WHERE WHAT IT READS IS OF BULK AT MOST 1048576: true; the input reads as it did. -/
def axiomKeepsUptoRow : OpenClaim := { program := "ytmfgddafcgflaaagreat", sum := "d6cb74fd875bcf6ba2e3ec76616838a0cd9317cf5851ccf88a9add2656f1e9be", func := "assize/assizelaw12.AxiomKeeps", spec := "axiomKeeps", unfollowed := true, recurses := true, plainKeys := false, apart := false, narrowed := true }
def AxiomKeepsUptoSaid : Prop := axiomKeepsUptoRow.holds Tryz.pinned (OpenSpec.upto axiomKeepsSpec)

end Rows
end Go.Proofs.YtmfgddafcgflaaaGreat
