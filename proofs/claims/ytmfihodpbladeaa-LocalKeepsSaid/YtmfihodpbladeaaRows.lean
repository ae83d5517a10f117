/-
  No cell of these rows narrows 'for every input' (looked for: loops, veiled, ifaces, maps, wideKeys, modest, calm, conditions, laid).
  DERIVED. THE GIVEN ROWS OF THIS SEAT. 10 by the template 'for every input the law returns true; each argument reads behind the call as it read before'; 0 by the template 'total and deterministic' (their statements: YtmfihodpbladeaaTotals.lean).
  GIVEN WITH THE SEED: the statements are not yours to turn. If you find one false, say at which input.
  Laid BY PROGRAM, IN A SANDBOX (cutbox-rows.mjs): the forced cells as the released guide's own fill.sh prints them over the translation 33c5b40225978a91… (all of the seat's roots in one cut). By AI agents, Wed Nov 11 2026. No macro, syntax, notation, axiom, sorry.
-/
import Derived.Test.YtmfihodpbladeaaChecked
import GoSem.Claim
import GoSem.ClaimJoined
import GoSem.ClaimMapViews
import Derived.JoinedTies
import Derived.KernelRfl
namespace Go.Proofs.Ytmfihodpbladeaa
/- THE CELL 'sum', in the pinned program and in every row, IS THE sha256 OF THE DUMP (.gsa) THAT YtmfihodpbladeaaProg.lean LOADS. Nothing in Lean hashes anything: it is a label: what it is worth is what the hold of that sum in a sandbox is worth. -/
noncomputable def Try.pinned : Pinned := { name := "ytmfihodpbladeaa", sum := "33c5b40225978a916d76047c8e18959f6fb3355489febe438c89ee73346cae40", checked := Try.checked }
namespace Rows
def none {H : Type} : Left H := { results := [], args := [] }

/-- 'assizelaw08.StateKeeps': WHATEVER THE INPUT: true; the input reads as it did. -/
def stateKeepsSpec : ChangeSpec := { name := "stateKeeps", fn := fun _ => fun
  | [d1, d2, d3] => { results := [.lit (.bool true)], args := [d1, d2, d3] }
  | _ => none }
def stateKeepsRow : OpenClaim := { program := "ytmfihodpbladeaa", sum := "33c5b40225978a916d76047c8e18959f6fb3355489febe438c89ee73346cae40", func := "assize/assizelaw08.StateKeeps", spec := "stateKeeps", unfollowed := true, recurses := true, plainKeys := false, apart := false }
def StateKeepsSaid : Prop := stateKeepsRow.holds Try.pinned (OpenSpec.ofChange stateKeepsSpec)

/-- ITS FALSE NEIGHBOUR: 'it returns false'. Refute it at one input. -/
def stateKeepsWrong : ChangeSpec := { name := "stateKeeps", fn := fun _ => fun
  | [d1, d2, d3] => { results := [.lit (.bool false)], args := [d1, d2, d3] }
  | _ => none }
def StateKeepsWrongFalsely : Prop := stateKeepsRow.holds Try.pinned (OpenSpec.ofChange stateKeepsWrong)

/-- 'assizelaw08.StateApplies': WHATEVER THE INPUT: true; the input reads as it did. -/
def stateAppliesSpec : ChangeSpec := { name := "stateApplies", fn := fun _ => fun
  | [d1, d2, d3] => { results := [.lit (.bool true)], args := [d1, d2, d3] }
  | _ => none }
def stateAppliesRow : OpenClaim := { program := "ytmfihodpbladeaa", sum := "33c5b40225978a916d76047c8e18959f6fb3355489febe438c89ee73346cae40", func := "assize/assizelaw08.StateApplies", spec := "stateApplies", unfollowed := true, recurses := true, plainKeys := false, apart := false }
def StateAppliesSaid : Prop := stateAppliesRow.holds Try.pinned (OpenSpec.ofChange stateAppliesSpec)

/-- ITS FALSE NEIGHBOUR: 'it returns false'. Refute it at one input. -/
def stateAppliesWrong : ChangeSpec := { name := "stateApplies", fn := fun _ => fun
  | [d1, d2, d3] => { results := [.lit (.bool false)], args := [d1, d2, d3] }
  | _ => none }
def StateAppliesWrongFalsely : Prop := stateAppliesRow.holds Try.pinned (OpenSpec.ofChange stateAppliesWrong)

/-- 'assizelaw08.StateFolds': WHATEVER THE INPUT: true; the input reads as it did. -/
def stateFoldsSpec : ChangeSpec := { name := "stateFolds", fn := fun _ => fun
  | [d1, d2, d3] => { results := [.lit (.bool true)], args := [d1, d2, d3] }
  | _ => none }
def stateFoldsRow : OpenClaim := { program := "ytmfihodpbladeaa", sum := "33c5b40225978a916d76047c8e18959f6fb3355489febe438c89ee73346cae40", func := "assize/assizelaw08.StateFolds", spec := "stateFolds", unfollowed := true, recurses := true, plainKeys := false, apart := false }
def StateFoldsSaid : Prop := stateFoldsRow.holds Try.pinned (OpenSpec.ofChange stateFoldsSpec)

/-- ITS FALSE NEIGHBOUR: 'it returns false'. Refute it at one input. -/
def stateFoldsWrong : ChangeSpec := { name := "stateFolds", fn := fun _ => fun
  | [d1, d2, d3] => { results := [.lit (.bool false)], args := [d1, d2, d3] }
  | _ => none }
def StateFoldsWrongFalsely : Prop := stateFoldsRow.holds Try.pinned (OpenSpec.ofChange stateFoldsWrong)

/-- 'assizelaw08.StateTurns': WHATEVER THE INPUT: true; the input reads as it did. -/
def stateTurnsSpec : ChangeSpec := { name := "stateTurns", fn := fun _ => fun
  | [d1, d2, d3] => { results := [.lit (.bool true)], args := [d1, d2, d3] }
  | _ => none }
def stateTurnsRow : OpenClaim := { program := "ytmfihodpbladeaa", sum := "33c5b40225978a916d76047c8e18959f6fb3355489febe438c89ee73346cae40", func := "assize/assizelaw08.StateTurns", spec := "stateTurns", unfollowed := true, recurses := true, plainKeys := false, apart := false }
def StateTurnsSaid : Prop := stateTurnsRow.holds Try.pinned (OpenSpec.ofChange stateTurnsSpec)

/-- ITS FALSE NEIGHBOUR: 'it returns false'. Refute it at one input. -/
def stateTurnsWrong : ChangeSpec := { name := "stateTurns", fn := fun _ => fun
  | [d1, d2, d3] => { results := [.lit (.bool false)], args := [d1, d2, d3] }
  | _ => none }
def StateTurnsWrongFalsely : Prop := stateTurnsRow.holds Try.pinned (OpenSpec.ofChange stateTurnsWrong)

/-- 'assizelaw08.StateOrders': WHATEVER THE INPUT: true; the input reads as it did. -/
def stateOrdersSpec : ChangeSpec := { name := "stateOrders", fn := fun _ => fun
  | [d1, d2] => { results := [.lit (.bool true)], args := [d1, d2] }
  | _ => none }
def stateOrdersRow : OpenClaim := { program := "ytmfihodpbladeaa", sum := "33c5b40225978a916d76047c8e18959f6fb3355489febe438c89ee73346cae40", func := "assize/assizelaw08.StateOrders", spec := "stateOrders", unfollowed := true, recurses := true, plainKeys := false, apart := false }
def StateOrdersSaid : Prop := stateOrdersRow.holds Try.pinned (OpenSpec.ofChange stateOrdersSpec)

/-- ITS FALSE NEIGHBOUR: 'it returns false'. Refute it at one input. -/
def stateOrdersWrong : ChangeSpec := { name := "stateOrders", fn := fun _ => fun
  | [d1, d2] => { results := [.lit (.bool false)], args := [d1, d2] }
  | _ => none }
def StateOrdersWrongFalsely : Prop := stateOrdersRow.holds Try.pinned (OpenSpec.ofChange stateOrdersWrong)

/-- 'assizelaw09.LocalLooks': WHATEVER THE INPUT: true; the input reads as it did. -/
def localLooksSpec : ChangeSpec := { name := "localLooks", fn := fun _ => fun
  | [d1, d2] => { results := [.lit (.bool true)], args := [d1, d2] }
  | _ => none }
def localLooksRow : OpenClaim := { program := "ytmfihodpbladeaa", sum := "33c5b40225978a916d76047c8e18959f6fb3355489febe438c89ee73346cae40", func := "assize/assizelaw09.LocalLooks", spec := "localLooks", unfollowed := true, recurses := true, plainKeys := false, apart := false }
def LocalLooksSaid : Prop := localLooksRow.holds Try.pinned (OpenSpec.ofChange localLooksSpec)

/-- ITS FALSE NEIGHBOUR: 'it returns false'. Refute it at one input. -/
def localLooksWrong : ChangeSpec := { name := "localLooks", fn := fun _ => fun
  | [d1, d2] => { results := [.lit (.bool false)], args := [d1, d2] }
  | _ => none }
def LocalLooksWrongFalsely : Prop := localLooksRow.holds Try.pinned (OpenSpec.ofChange localLooksWrong)

/-- 'assizelaw09.LocalAlone': WHATEVER THE INPUT: true; the input reads as it did. -/
def localAloneSpec : ChangeSpec := { name := "localAlone", fn := fun _ => fun
  | [d1, d2] => { results := [.lit (.bool true)], args := [d1, d2] }
  | _ => none }
def localAloneRow : OpenClaim := { program := "ytmfihodpbladeaa", sum := "33c5b40225978a916d76047c8e18959f6fb3355489febe438c89ee73346cae40", func := "assize/assizelaw09.LocalAlone", spec := "localAlone", unfollowed := true, recurses := true, plainKeys := false, apart := false }
def LocalAloneSaid : Prop := localAloneRow.holds Try.pinned (OpenSpec.ofChange localAloneSpec)

/-- ITS FALSE NEIGHBOUR: 'it returns false'. Refute it at one input. -/
def localAloneWrong : ChangeSpec := { name := "localAlone", fn := fun _ => fun
  | [d1, d2] => { results := [.lit (.bool false)], args := [d1, d2] }
  | _ => none }
def LocalAloneWrongFalsely : Prop := localAloneRow.holds Try.pinned (OpenSpec.ofChange localAloneWrong)

/-- 'assizelaw09.LocalKeeps': WHATEVER THE INPUT: true; the input reads as it did. -/
def localKeepsSpec : ChangeSpec := { name := "localKeeps", fn := fun _ => fun
  | [d] => { results := [.lit (.bool true)], args := [d] }
  | _ => none }
def localKeepsRow : OpenClaim := { program := "ytmfihodpbladeaa", sum := "33c5b40225978a916d76047c8e18959f6fb3355489febe438c89ee73346cae40", func := "assize/assizelaw09.LocalKeeps", spec := "localKeeps", unfollowed := true, recurses := true, plainKeys := false, apart := false }
def LocalKeepsSaid : Prop := localKeepsRow.holds Try.pinned (OpenSpec.ofChange localKeepsSpec)

/-- ITS FALSE NEIGHBOUR: 'it returns false'. Refute it at one input. -/
def localKeepsWrong : ChangeSpec := { name := "localKeeps", fn := fun _ => fun
  | [d] => { results := [.lit (.bool false)], args := [d] }
  | _ => none }
def LocalKeepsWrongFalsely : Prop := localKeepsRow.holds Try.pinned (OpenSpec.ofChange localKeepsWrong)

/-- 'assizelaw09.LocalAll': WHATEVER THE INPUT: true; the input reads as it did. -/
def localAllSpec : ChangeSpec := { name := "localAll", fn := fun _ => fun
  | [d] => { results := [.lit (.bool true)], args := [d] }
  | _ => none }
def localAllRow : OpenClaim := { program := "ytmfihodpbladeaa", sum := "33c5b40225978a916d76047c8e18959f6fb3355489febe438c89ee73346cae40", func := "assize/assizelaw09.LocalAll", spec := "localAll", unfollowed := true, recurses := true, plainKeys := false, apart := false }
def LocalAllSaid : Prop := localAllRow.holds Try.pinned (OpenSpec.ofChange localAllSpec)

/-- ITS FALSE NEIGHBOUR: 'it returns false'. Refute it at one input. -/
def localAllWrong : ChangeSpec := { name := "localAll", fn := fun _ => fun
  | [d] => { results := [.lit (.bool false)], args := [d] }
  | _ => none }
def LocalAllWrongFalsely : Prop := localAllRow.holds Try.pinned (OpenSpec.ofChange localAllWrong)

/-- 'assizelaw09.LocalReads': WHATEVER THE INPUT: true; the input reads as it did. -/
def localReadsSpec : ChangeSpec := { name := "localReads", fn := fun _ => fun
  | [d1, d2] => { results := [.lit (.bool true)], args := [d1, d2] }
  | _ => none }
def localReadsRow : OpenClaim := { program := "ytmfihodpbladeaa", sum := "33c5b40225978a916d76047c8e18959f6fb3355489febe438c89ee73346cae40", func := "assize/assizelaw09.LocalReads", spec := "localReads", unfollowed := true, recurses := true, plainKeys := false, apart := false }
def LocalReadsSaid : Prop := localReadsRow.holds Try.pinned (OpenSpec.ofChange localReadsSpec)

/-- ITS FALSE NEIGHBOUR: 'it returns false'. Refute it at one input. -/
def localReadsWrong : ChangeSpec := { name := "localReads", fn := fun _ => fun
  | [d1, d2] => { results := [.lit (.bool false)], args := [d1, d2] }
  | _ => none }
def LocalReadsWrongFalsely : Prop := localReadsRow.holds Try.pinned (OpenSpec.ofChange localReadsWrong)

/- THE SECOND FORM. 'bulk': how many values and letters a reading holds, each counted each time it is reached (what is shared counts as often as it is met; a slice's spare places count too). A statement '..UptoSaid' is the law's where the arguments, and the package variables that the reading takes, are together of bulk at most 1048576: NARROWER than '..Said'. Prove '..Said' where nothing that the law and all that it calls make is longer than what came in: it says more and counts as full. Else prove '..UptoSaid'. A law counts once. -/
mutual
def uptoBulk {H : Type} : DataW H → Nat
  | .lit (.string bytes) => bytes.length + 1
  | .lit _ => 1
  | .nil => 1
  | .ptr d => uptoBulk d + 1
  | .slice elems spare => uptoBulkAll elems + uptoBulkAll spare + 1
  | .agg parts => uptoBulkAll parts + 1
  | .iface _ d => uptoBulk d + 1
  | .map entries => uptoBulkEntries entries + 1
  | .held _ => 1
def uptoBulkAll {H : Type} : List (DataW H) → Nat
  | [] => 0
  | d :: r => uptoBulk d + uptoBulkAll r
def uptoBulkEntries {H : Type} : List (Lit × DataW H) → Nat
  | [] => 0
  | x :: r => uptoBulkEntry x + uptoBulkEntries r
def uptoBulkEntry {H : Type} : Lit × DataW H → Nat
  | (.string bytes, d) => bytes.length + uptoBulk d + 1
  | (_, d) => uptoBulk d + 1
 end
def uptoSmall : (H : Type) → List (DataW H) → Bool := fun _ ds => decide (uptoBulkAll ds ≤ 1048576)
def OpenSpec.upto (s : _root_.Go.ChangeSpec) : _root_.Go.OpenSpec := { _root_.Go.OpenSpec.ofChange s with cond := some uptoSmall }

/-- 'assizelaw08.StateKeeps', WHERE WHAT IT READS IS OF BULK AT MOST 1048576: true; the input reads as it did. -/
def stateKeepsUptoRow : OpenClaim := { program := "ytmfihodpbladeaa", sum := "33c5b40225978a916d76047c8e18959f6fb3355489febe438c89ee73346cae40", func := "assize/assizelaw08.StateKeeps", spec := "stateKeeps", unfollowed := true, recurses := true, plainKeys := false, apart := false, narrowed := true }
def StateKeepsUptoSaid : Prop := stateKeepsUptoRow.holds Try.pinned (OpenSpec.upto stateKeepsSpec)

/-- 'assizelaw08.StateApplies', WHERE WHAT IT READS IS OF BULK AT MOST 1048576: true; the input reads as it did. -/
def stateAppliesUptoRow : OpenClaim := { program := "ytmfihodpbladeaa", sum := "33c5b40225978a916d76047c8e18959f6fb3355489febe438c89ee73346cae40", func := "assize/assizelaw08.StateApplies", spec := "stateApplies", unfollowed := true, recurses := true, plainKeys := false, apart := false, narrowed := true }
def StateAppliesUptoSaid : Prop := stateAppliesUptoRow.holds Try.pinned (OpenSpec.upto stateAppliesSpec)

/-- 'assizelaw08.StateFolds', WHERE WHAT IT READS IS OF BULK AT MOST 1048576: true; the input reads as it did. -/
def stateFoldsUptoRow : OpenClaim := { program := "ytmfihodpbladeaa", sum := "33c5b40225978a916d76047c8e18959f6fb3355489febe438c89ee73346cae40", func := "assize/assizelaw08.StateFolds", spec := "stateFolds", unfollowed := true, recurses := true, plainKeys := false, apart := false, narrowed := true }
def StateFoldsUptoSaid : Prop := stateFoldsUptoRow.holds Try.pinned (OpenSpec.upto stateFoldsSpec)

/-- 'assizelaw08.StateTurns', WHERE WHAT IT READS IS OF BULK AT MOST 1048576: true; the input reads as it did. -/
def stateTurnsUptoRow : OpenClaim := { program := "ytmfihodpbladeaa", sum := "33c5b40225978a916d76047c8e18959f6fb3355489febe438c89ee73346cae40", func := "assize/assizelaw08.StateTurns", spec := "stateTurns", unfollowed := true, recurses := true, plainKeys := false, apart := false, narrowed := true }
def StateTurnsUptoSaid : Prop := stateTurnsUptoRow.holds Try.pinned (OpenSpec.upto stateTurnsSpec)

/-- 'assizelaw08.StateOrders', WHERE WHAT IT READS IS OF BULK AT MOST 1048576: true; the input reads as it did. -/
def stateOrdersUptoRow : OpenClaim := { program := "ytmfihodpbladeaa", sum := "33c5b40225978a916d76047c8e18959f6fb3355489febe438c89ee73346cae40", func := "assize/assizelaw08.StateOrders", spec := "stateOrders", unfollowed := true, recurses := true, plainKeys := false, apart := false, narrowed := true }
def StateOrdersUptoSaid : Prop := stateOrdersUptoRow.holds Try.pinned (OpenSpec.upto stateOrdersSpec)

/-- 'assizelaw09.LocalLooks', WHERE WHAT IT READS IS OF BULK AT MOST 1048576: true; the input reads as it did. -/
def localLooksUptoRow : OpenClaim := { program := "ytmfihodpbladeaa", sum := "33c5b40225978a916d76047c8e18959f6fb3355489febe438c89ee73346cae40", func := "assize/assizelaw09.LocalLooks", spec := "localLooks", unfollowed := true, recurses := true, plainKeys := false, apart := false, narrowed := true }
def LocalLooksUptoSaid : Prop := localLooksUptoRow.holds Try.pinned (OpenSpec.upto localLooksSpec)

/-- 'assizelaw09.LocalAlone', WHERE WHAT IT READS IS OF BULK AT MOST 1048576: true; the input reads as it did. -/
def localAloneUptoRow : OpenClaim := { program := "ytmfihodpbladeaa", sum := "33c5b40225978a916d76047c8e18959f6fb3355489febe438c89ee73346cae40", func := "assize/assizelaw09.LocalAlone", spec := "localAlone", unfollowed := true, recurses := true, plainKeys := false, apart := false, narrowed := true }
def LocalAloneUptoSaid : Prop := localAloneUptoRow.holds Try.pinned (OpenSpec.upto localAloneSpec)

/-- 'assizelaw09.LocalKeeps', WHERE WHAT IT READS IS OF BULK AT MOST 1048576: true; the input reads as it did. -/
def localKeepsUptoRow : OpenClaim := { program := "ytmfihodpbladeaa", sum := "33c5b40225978a916d76047c8e18959f6fb3355489febe438c89ee73346cae40", func := "assize/assizelaw09.LocalKeeps", spec := "localKeeps", unfollowed := true, recurses := true, plainKeys := false, apart := false, narrowed := true }
def LocalKeepsUptoSaid : Prop := localKeepsUptoRow.holds Try.pinned (OpenSpec.upto localKeepsSpec)

/-- 'assizelaw09.LocalAll', WHERE WHAT IT READS IS OF BULK AT MOST 1048576: true; the input reads as it did. -/
def localAllUptoRow : OpenClaim := { program := "ytmfihodpbladeaa", sum := "33c5b40225978a916d76047c8e18959f6fb3355489febe438c89ee73346cae40", func := "assize/assizelaw09.LocalAll", spec := "localAll", unfollowed := true, recurses := true, plainKeys := false, apart := false, narrowed := true }
def LocalAllUptoSaid : Prop := localAllUptoRow.holds Try.pinned (OpenSpec.upto localAllSpec)

/-- 'assizelaw09.LocalReads', WHERE WHAT IT READS IS OF BULK AT MOST 1048576: true; the input reads as it did. -/
def localReadsUptoRow : OpenClaim := { program := "ytmfihodpbladeaa", sum := "33c5b40225978a916d76047c8e18959f6fb3355489febe438c89ee73346cae40", func := "assize/assizelaw09.LocalReads", spec := "localReads", unfollowed := true, recurses := true, plainKeys := false, apart := false, narrowed := true }
def LocalReadsUptoSaid : Prop := localReadsUptoRow.holds Try.pinned (OpenSpec.upto localReadsSpec)

end Rows
end Go.Proofs.Ytmfihodpbladeaa
