/-
  No cell of these rows narrows 'for every input' (looked for: loops, veiled, ifaces, maps, wideKeys, modest, calm, conditions, laid).
  DERIVED. THE GIVEN ROWS OF THIS SEAT. 9 by the template 'for every input the law returns true; each argument reads behind the call as it read before'; 0 by the template 'total and deterministic' (their statements: YtfpeabnehpclnaaGreatTotals.lean).
  GIVEN WITH THE SEED: the statements are not yours to turn. If you find one false, say at which input.
  Laid BY PROGRAM, IN A SANDBOX (cutbox-rows.mjs): the forced cells as the released guide's own fill.sh prints them over the translation dd261d0bd0afd67d… (all of the seat's roots in one cut). By AI agents, Wed Nov 11 2026. No macro, syntax, notation, axiom, sorry.
-/
import Derived.Test.YtfpeabnehpclnaaGreatChecked
import GoSem.Claim
import GoSem.ClaimJoined
import GoSem.ClaimMapViews
import Derived.JoinedTies
import Derived.KernelRfl
namespace Go.Proofs.YtfpeabnehpclnaaGreat
/- THE CELL 'sum', in the pinned program and in every row, IS THE sha256 OF THE DUMP (.gsa) THAT YtfpeabnehpclnaaGreatProg.lean LOADS. Nothing in Lean hashes anything: it is a label: what it is worth is what the hold of that sum in a sandbox is worth. -/
noncomputable def Tryz.pinned : Pinned := { name := "ytfpeabnehpclnaagreat", sum := "dd261d0bd0afd67ddf33bca87ee7ad343e6a1931b902d43c16f86b849040a31d", checked := Tryz.checked }
namespace Rows
def none {H : Type} : Left H := { results := [], args := [] }

/-- 'assizelaw20.BlameFits': WHATEVER THE INPUT: true; the input reads as it did. -/
def blameFitsSpec : ChangeSpec := { name := "blameFits", fn := fun _ => fun
  | [d1, d2] => { results := [.lit (.bool true)], args := [d1, d2] }
  | _ => none }
def blameFitsRow : OpenClaim := { program := "ytfpeabnehpclnaagreat", sum := "dd261d0bd0afd67ddf33bca87ee7ad343e6a1931b902d43c16f86b849040a31d", func := "assize/assizelaw20.BlameFits", spec := "blameFits", unfollowed := true, recurses := true, plainKeys := false, apart := false }
def BlameFitsSaid : Prop := blameFitsRow.holds Tryz.pinned (OpenSpec.ofChange blameFitsSpec)

/-- ITS FALSE NEIGHBOUR: 'it returns false'. Refute it at one input. -/
def blameFitsWrong : ChangeSpec := { name := "blameFits", fn := fun _ => fun
  | [d1, d2] => { results := [.lit (.bool false)], args := [d1, d2] }
  | _ => none }
def BlameFitsWrongFalsely : Prop := blameFitsRow.holds Tryz.pinned (OpenSpec.ofChange blameFitsWrong)

/-- 'assizelaw20.BlameLeast': WHATEVER THE INPUT: true; the input reads as it did. -/
def blameLeastSpec : ChangeSpec := { name := "blameLeast", fn := fun _ => fun
  | [d] => { results := [.lit (.bool true)], args := [d] }
  | _ => none }
def blameLeastRow : OpenClaim := { program := "ytfpeabnehpclnaagreat", sum := "dd261d0bd0afd67ddf33bca87ee7ad343e6a1931b902d43c16f86b849040a31d", func := "assize/assizelaw20.BlameLeast", spec := "blameLeast", unfollowed := true, recurses := true, plainKeys := false, apart := false }
def BlameLeastSaid : Prop := blameLeastRow.holds Tryz.pinned (OpenSpec.ofChange blameLeastSpec)

/-- ITS FALSE NEIGHBOUR: 'it returns false'. Refute it at one input. -/
def blameLeastWrong : ChangeSpec := { name := "blameLeast", fn := fun _ => fun
  | [d] => { results := [.lit (.bool false)], args := [d] }
  | _ => none }
def BlameLeastWrongFalsely : Prop := blameLeastRow.holds Tryz.pinned (OpenSpec.ofChange blameLeastWrong)

/-- 'assizelaw20.BlameGoes': WHATEVER THE INPUT: true; the input reads as it did. -/
def blameGoesSpec : ChangeSpec := { name := "blameGoes", fn := fun _ => fun
  | [d] => { results := [.lit (.bool true)], args := [d] }
  | _ => none }
def blameGoesRow : OpenClaim := { program := "ytfpeabnehpclnaagreat", sum := "dd261d0bd0afd67ddf33bca87ee7ad343e6a1931b902d43c16f86b849040a31d", func := "assize/assizelaw20.BlameGoes", spec := "blameGoes", unfollowed := true, recurses := true, plainKeys := false, apart := false }
def BlameGoesSaid : Prop := blameGoesRow.holds Tryz.pinned (OpenSpec.ofChange blameGoesSpec)

/-- ITS FALSE NEIGHBOUR: 'it returns false'. Refute it at one input. -/
def blameGoesWrong : ChangeSpec := { name := "blameGoes", fn := fun _ => fun
  | [d] => { results := [.lit (.bool false)], args := [d] }
  | _ => none }
def BlameGoesWrongFalsely : Prop := blameGoesRow.holds Tryz.pinned (OpenSpec.ofChange blameGoesWrong)

/-- 'assizelaw20.BlameFinds': WHATEVER THE INPUT: true; the input reads as it did. -/
def blameFindsSpec : ChangeSpec := { name := "blameFinds", fn := fun _ => fun
  | [d1, d2] => { results := [.lit (.bool true)], args := [d1, d2] }
  | _ => none }
def blameFindsRow : OpenClaim := { program := "ytfpeabnehpclnaagreat", sum := "dd261d0bd0afd67ddf33bca87ee7ad343e6a1931b902d43c16f86b849040a31d", func := "assize/assizelaw20.BlameFinds", spec := "blameFinds", unfollowed := true, recurses := true, plainKeys := false, apart := false }
def BlameFindsSaid : Prop := blameFindsRow.holds Tryz.pinned (OpenSpec.ofChange blameFindsSpec)

/-- ITS FALSE NEIGHBOUR: 'it returns false'. Refute it at one input. -/
def blameFindsWrong : ChangeSpec := { name := "blameFinds", fn := fun _ => fun
  | [d1, d2] => { results := [.lit (.bool false)], args := [d1, d2] }
  | _ => none }
def BlameFindsWrongFalsely : Prop := blameFindsRow.holds Tryz.pinned (OpenSpec.ofChange blameFindsWrong)

/-- 'assizelaw20.BlameAbove': WHATEVER THE INPUT: true; the input reads as it did. -/
def blameAboveSpec : ChangeSpec := { name := "blameAbove", fn := fun _ => fun
  | [d1, d2, d3] => { results := [.lit (.bool true)], args := [d1, d2, d3] }
  | _ => none }
def blameAboveRow : OpenClaim := { program := "ytfpeabnehpclnaagreat", sum := "dd261d0bd0afd67ddf33bca87ee7ad343e6a1931b902d43c16f86b849040a31d", func := "assize/assizelaw20.BlameAbove", spec := "blameAbove", unfollowed := true, recurses := true, plainKeys := false, apart := false }
def BlameAboveSaid : Prop := blameAboveRow.holds Tryz.pinned (OpenSpec.ofChange blameAboveSpec)

/-- ITS FALSE NEIGHBOUR: 'it returns false'. Refute it at one input. -/
def blameAboveWrong : ChangeSpec := { name := "blameAbove", fn := fun _ => fun
  | [d1, d2, d3] => { results := [.lit (.bool false)], args := [d1, d2, d3] }
  | _ => none }
def BlameAboveWrongFalsely : Prop := blameAboveRow.holds Tryz.pinned (OpenSpec.ofChange blameAboveWrong)

/-- 'assizelaw19.DepsGraphs': WHATEVER THE INPUT: true; the input reads as it did. -/
def depsGraphsSpec : ChangeSpec := { name := "depsGraphs", fn := fun _ => fun
  | [d] => { results := [.lit (.bool true)], args := [d] }
  | _ => none }
def depsGraphsRow : OpenClaim := { program := "ytfpeabnehpclnaagreat", sum := "dd261d0bd0afd67ddf33bca87ee7ad343e6a1931b902d43c16f86b849040a31d", func := "assize/assizelaw19.DepsGraphs", spec := "depsGraphs", unfollowed := true, recurses := true, plainKeys := false, apart := false }
def DepsGraphsSaid : Prop := depsGraphsRow.holds Tryz.pinned (OpenSpec.ofChange depsGraphsSpec)

/-- ITS FALSE NEIGHBOUR: 'it returns false'. Refute it at one input. -/
def depsGraphsWrong : ChangeSpec := { name := "depsGraphs", fn := fun _ => fun
  | [d] => { results := [.lit (.bool false)], args := [d] }
  | _ => none }
def DepsGraphsWrongFalsely : Prop := depsGraphsRow.holds Tryz.pinned (OpenSpec.ofChange depsGraphsWrong)

/-- 'assizelaw19.DepsSure': WHATEVER THE INPUT: true; the input reads as it did. -/
def depsSureSpec : ChangeSpec := { name := "depsSure", fn := fun _ => fun
  | [d1, d2, d3] => { results := [.lit (.bool true)], args := [d1, d2, d3] }
  | _ => none }
def depsSureRow : OpenClaim := { program := "ytfpeabnehpclnaagreat", sum := "dd261d0bd0afd67ddf33bca87ee7ad343e6a1931b902d43c16f86b849040a31d", func := "assize/assizelaw19.DepsSure", spec := "depsSure", unfollowed := true, recurses := true, plainKeys := false, apart := false }
def DepsSureSaid : Prop := depsSureRow.holds Tryz.pinned (OpenSpec.ofChange depsSureSpec)

/-- ITS FALSE NEIGHBOUR: 'it returns false'. Refute it at one input. -/
def depsSureWrong : ChangeSpec := { name := "depsSure", fn := fun _ => fun
  | [d1, d2, d3] => { results := [.lit (.bool false)], args := [d1, d2, d3] }
  | _ => none }
def DepsSureWrongFalsely : Prop := depsSureRow.holds Tryz.pinned (OpenSpec.ofChange depsSureWrong)

/-- 'assizelaw19.DepsKeeps': WHATEVER THE INPUT: true; the input reads as it did. -/
def depsKeepsSpec : ChangeSpec := { name := "depsKeeps", fn := fun _ => fun
  | [d] => { results := [.lit (.bool true)], args := [d] }
  | _ => none }
def depsKeepsRow : OpenClaim := { program := "ytfpeabnehpclnaagreat", sum := "dd261d0bd0afd67ddf33bca87ee7ad343e6a1931b902d43c16f86b849040a31d", func := "assize/assizelaw19.DepsKeeps", spec := "depsKeeps", unfollowed := true, recurses := true, plainKeys := false, apart := false }
def DepsKeepsSaid : Prop := depsKeepsRow.holds Tryz.pinned (OpenSpec.ofChange depsKeepsSpec)

/-- ITS FALSE NEIGHBOUR: 'it returns false'. Refute it at one input. -/
def depsKeepsWrong : ChangeSpec := { name := "depsKeeps", fn := fun _ => fun
  | [d] => { results := [.lit (.bool false)], args := [d] }
  | _ => none }
def DepsKeepsWrongFalsely : Prop := depsKeepsRow.holds Tryz.pinned (OpenSpec.ofChange depsKeepsWrong)

/-- 'assizelaw19.DepsKinds': WHATEVER THE INPUT: true; the input reads as it did. -/
def depsKindsSpec : ChangeSpec := { name := "depsKinds", fn := fun _ => fun
  | [d] => { results := [.lit (.bool true)], args := [d] }
  | _ => none }
def depsKindsRow : OpenClaim := { program := "ytfpeabnehpclnaagreat", sum := "dd261d0bd0afd67ddf33bca87ee7ad343e6a1931b902d43c16f86b849040a31d", func := "assize/assizelaw19.DepsKinds", spec := "depsKinds", unfollowed := true, recurses := true, plainKeys := false, apart := false }
def DepsKindsSaid : Prop := depsKindsRow.holds Tryz.pinned (OpenSpec.ofChange depsKindsSpec)

/-- ITS FALSE NEIGHBOUR: 'it returns false'. Refute it at one input. -/
def depsKindsWrong : ChangeSpec := { name := "depsKinds", fn := fun _ => fun
  | [d] => { results := [.lit (.bool false)], args := [d] }
  | _ => none }
def DepsKindsWrongFalsely : Prop := depsKindsRow.holds Tryz.pinned (OpenSpec.ofChange depsKindsWrong)

/- THE SECOND FORM. 'bulk': how many values and letters a reading holds, each counted each time it is reached (what is shared counts as often as it is met; a slice's spare places count too). A statement '..UptoSaid' is the law's where the arguments, and the package variables that the reading takes, are together of bulk at most 1048576: NARROWER than '..Said'. Prove '..Said' where nothing that the law and all that it calls make is longer than what came in: it says more and counts as full. Else prove '..UptoSaid'. A law counts once. -/
mutual
def uptoBulk {H : Type} : DataW H → Nat
  | .lit (.string bytes) => bytes.length + 1
  | .lit _ => 1
  | .nil => 1
  | .ptr d => uptoBulk d + 1
  | .slice elems spare => uptoBulkAll elems + uptoBulkAll spare + 1
  | .agg parts => uptoBulkAll parts + 1
  | .iface _ d => uptoBulk d + 1
  | .map entries => uptoBulkEntries entries + 1
  | .held _ => 1
def uptoBulkAll {H : Type} : List (DataW H) → Nat
  | [] => 0
  | d :: r => uptoBulk d + uptoBulkAll r
def uptoBulkEntries {H : Type} : List (Lit × DataW H) → Nat
  | [] => 0
  | x :: r => uptoBulkEntry x + uptoBulkEntries r
def uptoBulkEntry {H : Type} : Lit × DataW H → Nat
  | (.string bytes, d) => bytes.length + uptoBulk d + 1
  | (_, d) => uptoBulk d + 1
 end
def uptoSmall : (H : Type) → List (DataW H) → Bool := fun _ ds => decide (uptoBulkAll ds ≤ 1048576)
def OpenSpec.upto (s : _root_.Go.ChangeSpec) : _root_.Go.OpenSpec := { _root_.Go.OpenSpec.ofChange s with cond := some uptoSmall }

/-- 'assizelaw20.BlameFits', WHERE WHAT IT READS IS OF BULK AT MOST 1048576: true; the input reads as it did. -/
def blameFitsUptoRow : OpenClaim := { program := "ytfpeabnehpclnaagreat", sum := "dd261d0bd0afd67ddf33bca87ee7ad343e6a1931b902d43c16f86b849040a31d", func := "assize/assizelaw20.BlameFits", spec := "blameFits", unfollowed := true, recurses := true, plainKeys := false, apart := false, narrowed := true }
def BlameFitsUptoSaid : Prop := blameFitsUptoRow.holds Tryz.pinned (OpenSpec.upto blameFitsSpec)

/-- 'assizelaw20.BlameLeast', WHERE WHAT IT READS IS OF BULK AT MOST 1048576: true; the input reads as it did. -/
def blameLeastUptoRow : OpenClaim := { program := "ytfpeabnehpclnaagreat", sum := "dd261d0bd0afd67ddf33bca87ee7ad343e6a1931b902d43c16f86b849040a31d", func := "assize/assizelaw20.BlameLeast", spec := "blameLeast", unfollowed := true, recurses := true, plainKeys := false, apart := false, narrowed := true }
def BlameLeastUptoSaid : Prop := blameLeastUptoRow.holds Tryz.pinned (OpenSpec.upto blameLeastSpec)

/-- 'assizelaw20.BlameGoes', WHERE WHAT IT READS IS OF BULK AT MOST 1048576: true; the input reads as it did. -/
def blameGoesUptoRow : OpenClaim := { program := "ytfpeabnehpclnaagreat", sum := "dd261d0bd0afd67ddf33bca87ee7ad343e6a1931b902d43c16f86b849040a31d", func := "assize/assizelaw20.BlameGoes", spec := "blameGoes", unfollowed := true, recurses := true, plainKeys := false, apart := false, narrowed := true }
def BlameGoesUptoSaid : Prop := blameGoesUptoRow.holds Tryz.pinned (OpenSpec.upto blameGoesSpec)

/-- 'assizelaw20.BlameFinds', WHERE WHAT IT READS IS OF BULK AT MOST 1048576: true; the input reads as it did. -/
def blameFindsUptoRow : OpenClaim := { program := "ytfpeabnehpclnaagreat", sum := "dd261d0bd0afd67ddf33bca87ee7ad343e6a1931b902d43c16f86b849040a31d", func := "assize/assizelaw20.BlameFinds", spec := "blameFinds", unfollowed := true, recurses := true, plainKeys := false, apart := false, narrowed := true }
def BlameFindsUptoSaid : Prop := blameFindsUptoRow.holds Tryz.pinned (OpenSpec.upto blameFindsSpec)

/-- 'assizelaw20.BlameAbove', WHERE WHAT IT READS IS OF BULK AT MOST 1048576: true; the input reads as it did. -/
def blameAboveUptoRow : OpenClaim := { program := "ytfpeabnehpclnaagreat", sum := "dd261d0bd0afd67ddf33bca87ee7ad343e6a1931b902d43c16f86b849040a31d", func := "assize/assizelaw20.BlameAbove", spec := "blameAbove", unfollowed := true, recurses := true, plainKeys := false, apart := false, narrowed := true }
def BlameAboveUptoSaid : Prop := blameAboveUptoRow.holds Tryz.pinned (OpenSpec.upto blameAboveSpec)

/-- 'assizelaw19.DepsGraphs', WHERE WHAT IT READS IS OF BULK AT MOST 1048576: true; the input reads as it did. -/
def depsGraphsUptoRow : OpenClaim := { program := "ytfpeabnehpclnaagreat", sum := "dd261d0bd0afd67ddf33bca87ee7ad343e6a1931b902d43c16f86b849040a31d", func := "assize/assizelaw19.DepsGraphs", spec := "depsGraphs", unfollowed := true, recurses := true, plainKeys := false, apart := false, narrowed := true }
def DepsGraphsUptoSaid : Prop := depsGraphsUptoRow.holds Tryz.pinned (OpenSpec.upto depsGraphsSpec)

/-- 'assizelaw19.DepsSure', WHERE WHAT IT READS IS OF BULK AT MOST 1048576: true; the input reads as it did. -/
def depsSureUptoRow : OpenClaim := { program := "ytfpeabnehpclnaagreat", sum := "dd261d0bd0afd67ddf33bca87ee7ad343e6a1931b902d43c16f86b849040a31d", func := "assize/assizelaw19.DepsSure", spec := "depsSure", unfollowed := true, recurses := true, plainKeys := false, apart := false, narrowed := true }
def DepsSureUptoSaid : Prop := depsSureUptoRow.holds Tryz.pinned (OpenSpec.upto depsSureSpec)

/-- 'assizelaw19.DepsKeeps', WHERE WHAT IT READS IS OF BULK AT MOST 1048576: true; the input reads as it did. -/
def depsKeepsUptoRow : OpenClaim := { program := "ytfpeabnehpclnaagreat", sum := "dd261d0bd0afd67ddf33bca87ee7ad343e6a1931b902d43c16f86b849040a31d", func := "assize/assizelaw19.DepsKeeps", spec := "depsKeeps", unfollowed := true, recurses := true, plainKeys := false, apart := false, narrowed := true }
def DepsKeepsUptoSaid : Prop := depsKeepsUptoRow.holds Tryz.pinned (OpenSpec.upto depsKeepsSpec)

/-- 'assizelaw19.DepsKinds', WHERE WHAT IT READS IS OF BULK AT MOST 1048576: true; the input reads as it did. -/
def depsKindsUptoRow : OpenClaim := { program := "ytfpeabnehpclnaagreat", sum := "dd261d0bd0afd67ddf33bca87ee7ad343e6a1931b902d43c16f86b849040a31d", func := "assize/assizelaw19.DepsKinds", spec := "depsKinds", unfollowed := true, recurses := true, plainKeys := false, apart := false, narrowed := true }
def DepsKindsUptoSaid : Prop := depsKindsUptoRow.holds Tryz.pinned (OpenSpec.upto depsKindsSpec)

end Rows
end Go.Proofs.YtfpeabnehpclnaaGreat
