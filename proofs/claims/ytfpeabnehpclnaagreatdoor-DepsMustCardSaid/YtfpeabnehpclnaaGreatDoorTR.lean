/- The law DepsMust: the program's row, and its card. No condition is added. -/
import Derived.Test.YtfpeabnehpclnaaGreatDoorCards
import Derived.Test.YtfpeabnehpclnaaGreatDoorTie
import Derived.WalkKit
import Derived.ProofKit
import Derived.OpenShut
import Derived.Deep.DeepHandedRow
import Derived.Lib.LaidTab
import Derived.SevenTiedAt
import Derived.Test.YtfpeabnehpclnaaGreatDoorY
import Derived.Test.YtfpeabnehpclnaaGreatDoorTW1
import Derived.Test.YtfpeabnehpclnaaGreatDoorTW2
import Derived.Test.YtfpeabnehpclnaaGreatDoorTW3
import Derived.Test.YtfpeabnehpclnaaGreatDoorTW4
import Derived.Test.YtfpeabnehpclnaaGreatDoorTPDO
namespace Go.Proofs.YtfpeabnehpclnaaGreatDoorT
open Go Go.Proofs Go.Proofs.YtfpeabnehpclnaaGreatDoorE Go.ChangeShapes Go.WideShapes Go.ChangeAt Go.RowKit Go.Proofs.YtfpeabnehpclnaaGreatDoor
set_option linter.unusedVariables false
set_option linter.unusedSimpArgs false
set_option maxHeartbeats 0
set_option maxRecDepth 100000
theorem own : ownKnob Tryz.prog.godebug = none := by kernel_rfl
theorem Sg : ko Tryz.prog 9 gP (fun x => (x).size ≤ reachBytes) := Nl Tryz.underlying9
theorem QY : ko Tryz.prog 22 (cB 9 gP) (fun x => (∀ y ∈ x, (y).size ≤ reachBytes) ∧ (x).length * 16 ≤ 140737488351232) := vX Tryz.underlying22 Sg (by kernel_rfl) (by decide) (by kernel_rfl)
theorem KE : ko Tryz.prog 2 (aF .i64) (fun x => (Lit.int .i64 x).wf = true) := Gw Tryz.underlying2
theorem CZ : ko Tryz.prog 3 (aF .i64) (fun x => (Lit.int .i64 x).wf = true) := Gw Tryz.underlying3
theorem Si : ko Tryz.prog 4 rW (fun x => True) := KM Tryz.underlying4
theorem QZ : ko Tryz.prog 47 (cB 2 (aF .i64)) (fun x => (∀ y ∈ x, (Lit.int .i64 y).wf = true) ∧ (x).length * 8 ≤ 140737488351232) := vX Tryz.underlying47 KE (by kernel_rfl) (by decide) (by kernel_rfl)
theorem OJ : ko Tryz.prog 49 (cu (aF .i64) (cu (aF .i64) (cu (aF .i64) (cu rW (cB 2 (aF .i64)))))) (fun x => ((Lit.int .i64 x.1).wf = true) ∧ ((Lit.int .i64 x.2.1).wf = true) ∧ ((Lit.int .i64 x.2.2.1).wf = true) ∧ (True) ∧ ((∀ y ∈ x.2.2.2.2, (Lit.int .i64 y).wf = true) ∧ (x.2.2.2.2).length * 8 ≤ 140737488351232)) := by
  refine uU Tryz.underlying49 ?_ (by kernel_rfl)
  show wU _ [_, _, _, _, _] _ _ _
  refine tO (G' := fun x : Int × Int × Bool × (List Int) => ((Lit.int .i64 x.1).wf = true) ∧ ((Lit.int .i64 x.2.1).wf = true) ∧ (True) ∧ ((∀ y ∈ x.2.2.2, (Lit.int .i64 y).wf = true) ∧ (x.2.2.2).length * 8 ≤ 140737488351232)) CZ (by kernel_rfl) (by kernel_rfl) (by kernel_rfl) ?_
  refine tO (G' := fun x : Int × Bool × (List Int) => ((Lit.int .i64 x.1).wf = true) ∧ (True) ∧ ((∀ y ∈ x.2.2, (Lit.int .i64 y).wf = true) ∧ (x.2.2).length * 8 ≤ 140737488351232)) CZ (by kernel_rfl) (by kernel_rfl) (by kernel_rfl) ?_
  refine tO (G' := fun x : Bool × (List Int) => (True) ∧ ((∀ y ∈ x.2, (Lit.int .i64 y).wf = true) ∧ (x.2).length * 8 ≤ 140737488351232)) KE (by kernel_rfl) (by kernel_rfl) (by kernel_rfl) ?_
  refine tO (G' := fun x : (List Int) => ((∀ y ∈ x, (Lit.int .i64 y).wf = true) ∧ (x).length * 8 ≤ 140737488351232)) Si (by kernel_rfl) (by kernel_rfl) (by kernel_rfl) ?_
  exact Ej QZ (by kernel_rfl) (by kernel_rfl) (by kernel_rfl)
theorem Ra : ko Tryz.prog 49 (Ty.iso (cu (aF .i64) (cu (aF .i64) (cu (aF .i64) (cu rW (cB 2 (aF .i64)))))) (fun g : Op => (g.Kind, (g.Key, (g.Arg, (g.Got, g.Vals)))))) (fun x => ((Lit.int .i64 (x).Kind).wf = true) ∧ ((Lit.int .i64 (x).Key).wf = true) ∧ ((Lit.int .i64 (x).Arg).wf = true) ∧ (True) ∧ ((∀ y ∈ (x).Vals, (Lit.int .i64 y).wf = true) ∧ ((x).Vals).length * 8 ≤ 140737488351232)) := Ae OJ _ (fun x => (⟨x.1, x.2.1, x.2.2.1, x.2.2.2.1, x.2.2.2.2⟩ : Op)) (fun _ => rfl)
theorem Rb : ko Tryz.prog 50 (cB 49 (Ty.iso (cu (aF .i64) (cu (aF .i64) (cu (aF .i64) (cu rW (cB 2 (aF .i64)))))) (fun g : Op => (g.Kind, (g.Key, (g.Arg, (g.Got, g.Vals))))))) (fun x => (∀ y2 ∈ x, ((Lit.int .i64 (y2).Kind).wf = true) ∧ ((Lit.int .i64 (y2).Key).wf = true) ∧ ((Lit.int .i64 (y2).Arg).wf = true) ∧ (True) ∧ ((∀ y ∈ (y2).Vals, (Lit.int .i64 y).wf = true) ∧ ((y2).Vals).length * 8 ≤ 140737488351232)) ∧ (x).length * 56 ≤ 140737488351232) := vX Tryz.underlying50 Ra (by kernel_rfl) (by decide) (by kernel_rfl)
theorem OL : ko Tryz.prog 52 (cu (aF .i64) (cu (aF .i64) (cu (aF .i64) (cu (aF .i64) (cB 49 (Ty.iso (cu (aF .i64) (cu (aF .i64) (cu (aF .i64) (cu rW (cB 2 (aF .i64)))))) (fun g : Op => (g.Kind, (g.Key, (g.Arg, (g.Got, g.Vals))))))))))) (fun x => ((Lit.int .i64 x.1).wf = true) ∧ ((Lit.int .i64 x.2.1).wf = true) ∧ ((Lit.int .i64 x.2.2.1).wf = true) ∧ ((Lit.int .i64 x.2.2.2.1).wf = true) ∧ ((∀ y2 ∈ x.2.2.2.2, ((Lit.int .i64 (y2).Kind).wf = true) ∧ ((Lit.int .i64 (y2).Key).wf = true) ∧ ((Lit.int .i64 (y2).Arg).wf = true) ∧ (True) ∧ ((∀ y ∈ (y2).Vals, (Lit.int .i64 y).wf = true) ∧ ((y2).Vals).length * 8 ≤ 140737488351232)) ∧ (x.2.2.2.2).length * 56 ≤ 140737488351232)) := by
  refine uU Tryz.underlying52 ?_ (by kernel_rfl)
  show wU _ [_, _, _, _, _] _ _ _
  refine tO (G' := fun x : Int × Int × Int × (List Op) => ((Lit.int .i64 x.1).wf = true) ∧ ((Lit.int .i64 x.2.1).wf = true) ∧ ((Lit.int .i64 x.2.2.1).wf = true) ∧ ((∀ y2 ∈ x.2.2.2, ((Lit.int .i64 (y2).Kind).wf = true) ∧ ((Lit.int .i64 (y2).Key).wf = true) ∧ ((Lit.int .i64 (y2).Arg).wf = true) ∧ (True) ∧ ((∀ y ∈ (y2).Vals, (Lit.int .i64 y).wf = true) ∧ ((y2).Vals).length * 8 ≤ 140737488351232)) ∧ (x.2.2.2).length * 56 ≤ 140737488351232)) KE (by kernel_rfl) (by kernel_rfl) (by kernel_rfl) ?_
  refine tO (G' := fun x : Int × Int × (List Op) => ((Lit.int .i64 x.1).wf = true) ∧ ((Lit.int .i64 x.2.1).wf = true) ∧ ((∀ y2 ∈ x.2.2, ((Lit.int .i64 (y2).Kind).wf = true) ∧ ((Lit.int .i64 (y2).Key).wf = true) ∧ ((Lit.int .i64 (y2).Arg).wf = true) ∧ (True) ∧ ((∀ y ∈ (y2).Vals, (Lit.int .i64 y).wf = true) ∧ ((y2).Vals).length * 8 ≤ 140737488351232)) ∧ (x.2.2).length * 56 ≤ 140737488351232)) CZ (by kernel_rfl) (by kernel_rfl) (by kernel_rfl) ?_
  refine tO (G' := fun x : Int × (List Op) => ((Lit.int .i64 x.1).wf = true) ∧ ((∀ y2 ∈ x.2, ((Lit.int .i64 (y2).Kind).wf = true) ∧ ((Lit.int .i64 (y2).Key).wf = true) ∧ ((Lit.int .i64 (y2).Arg).wf = true) ∧ (True) ∧ ((∀ y ∈ (y2).Vals, (Lit.int .i64 y).wf = true) ∧ ((y2).Vals).length * 8 ≤ 140737488351232)) ∧ (x.2).length * 56 ≤ 140737488351232)) CZ (by kernel_rfl) (by kernel_rfl) (by kernel_rfl) ?_
  refine tO (G' := fun x : (List Op) => ((∀ y2 ∈ x, ((Lit.int .i64 (y2).Kind).wf = true) ∧ ((Lit.int .i64 (y2).Key).wf = true) ∧ ((Lit.int .i64 (y2).Arg).wf = true) ∧ (True) ∧ ((∀ y ∈ (y2).Vals, (Lit.int .i64 y).wf = true) ∧ ((y2).Vals).length * 8 ≤ 140737488351232)) ∧ (x).length * 56 ≤ 140737488351232)) CZ (by kernel_rfl) (by kernel_rfl) (by kernel_rfl) ?_
  exact Ej Rb (by kernel_rfl) (by kernel_rfl) (by kernel_rfl)
theorem Rc : ko Tryz.prog 52 (Ty.iso (cu (aF .i64) (cu (aF .i64) (cu (aF .i64) (cu (aF .i64) (cB 49 (Ty.iso (cu (aF .i64) (cu (aF .i64) (cu (aF .i64) (cu rW (cB 2 (aF .i64)))))) (fun g : Op => (g.Kind, (g.Key, (g.Arg, (g.Got, g.Vals))))))))))) (fun g : Txn => (g.Proc, (g.Status, (g.From, (g.To, g.Ops)))))) (fun x => ((Lit.int .i64 (x).Proc).wf = true) ∧ ((Lit.int .i64 (x).Status).wf = true) ∧ ((Lit.int .i64 (x).From).wf = true) ∧ ((Lit.int .i64 (x).To).wf = true) ∧ ((∀ y2 ∈ (x).Ops, ((Lit.int .i64 (y2).Kind).wf = true) ∧ ((Lit.int .i64 (y2).Key).wf = true) ∧ ((Lit.int .i64 (y2).Arg).wf = true) ∧ (True) ∧ ((∀ y ∈ (y2).Vals, (Lit.int .i64 y).wf = true) ∧ ((y2).Vals).length * 8 ≤ 140737488351232)) ∧ ((x).Ops).length * 56 ≤ 140737488351232)) := Ae OL _ (fun x => (⟨x.1, x.2.1, x.2.2.1, x.2.2.2.1, x.2.2.2.2⟩ : Txn)) (fun _ => rfl)
theorem Re : ko Tryz.prog 23 (cB 52 (Ty.iso (cu (aF .i64) (cu (aF .i64) (cu (aF .i64) (cu (aF .i64) (cB 49 (Ty.iso (cu (aF .i64) (cu (aF .i64) (cu (aF .i64) (cu rW (cB 2 (aF .i64)))))) (fun g : Op => (g.Kind, (g.Key, (g.Arg, (g.Got, g.Vals))))))))))) (fun g : Txn => (g.Proc, (g.Status, (g.From, (g.To, g.Ops))))))) (fun x => (∀ y3 ∈ x, ((Lit.int .i64 (y3).Proc).wf = true) ∧ ((Lit.int .i64 (y3).Status).wf = true) ∧ ((Lit.int .i64 (y3).From).wf = true) ∧ ((Lit.int .i64 (y3).To).wf = true) ∧ ((∀ y2 ∈ (y3).Ops, ((Lit.int .i64 (y2).Kind).wf = true) ∧ ((Lit.int .i64 (y2).Key).wf = true) ∧ ((Lit.int .i64 (y2).Arg).wf = true) ∧ (True) ∧ ((∀ y ∈ (y2).Vals, (Lit.int .i64 y).wf = true) ∧ ((y2).Vals).length * 8 ≤ 140737488351232)) ∧ ((y3).Ops).length * 56 ≤ 140737488351232)) ∧ (x).length * 56 ≤ 140737488351232) := vX Tryz.underlying23 Rc (by kernel_rfl) (by decide) (by kernel_rfl)
theorem OM : ko Tryz.prog 25 (cu (cB 9 gP) (cB 52 (Ty.iso (cu (aF .i64) (cu (aF .i64) (cu (aF .i64) (cu (aF .i64) (cB 49 (Ty.iso (cu (aF .i64) (cu (aF .i64) (cu (aF .i64) (cu rW (cB 2 (aF .i64)))))) (fun g : Op => (g.Kind, (g.Key, (g.Arg, (g.Got, g.Vals))))))))))) (fun g : Txn => (g.Proc, (g.Status, (g.From, (g.To, g.Ops)))))))) (fun x => ((∀ y ∈ x.1, (y).size ≤ reachBytes) ∧ (x.1).length * 16 ≤ 140737488351232) ∧ ((∀ y3 ∈ x.2, ((Lit.int .i64 (y3).Proc).wf = true) ∧ ((Lit.int .i64 (y3).Status).wf = true) ∧ ((Lit.int .i64 (y3).From).wf = true) ∧ ((Lit.int .i64 (y3).To).wf = true) ∧ ((∀ y2 ∈ (y3).Ops, ((Lit.int .i64 (y2).Kind).wf = true) ∧ ((Lit.int .i64 (y2).Key).wf = true) ∧ ((Lit.int .i64 (y2).Arg).wf = true) ∧ (True) ∧ ((∀ y ∈ (y2).Vals, (Lit.int .i64 y).wf = true) ∧ ((y2).Vals).length * 8 ≤ 140737488351232)) ∧ ((y3).Ops).length * 56 ≤ 140737488351232)) ∧ (x.2).length * 56 ≤ 140737488351232)) := by
  refine uU Tryz.underlying25 ?_ (by kernel_rfl)
  show wU _ [_, _] _ _ _
  refine tO (G' := fun x : (List Txn) => ((∀ y3 ∈ x, ((Lit.int .i64 (y3).Proc).wf = true) ∧ ((Lit.int .i64 (y3).Status).wf = true) ∧ ((Lit.int .i64 (y3).From).wf = true) ∧ ((Lit.int .i64 (y3).To).wf = true) ∧ ((∀ y2 ∈ (y3).Ops, ((Lit.int .i64 (y2).Kind).wf = true) ∧ ((Lit.int .i64 (y2).Key).wf = true) ∧ ((Lit.int .i64 (y2).Arg).wf = true) ∧ (True) ∧ ((∀ y ∈ (y2).Vals, (Lit.int .i64 y).wf = true) ∧ ((y2).Vals).length * 8 ≤ 140737488351232)) ∧ ((y3).Ops).length * 56 ≤ 140737488351232)) ∧ (x).length * 56 ≤ 140737488351232)) QY (by kernel_rfl) (by kernel_rfl) (by kernel_rfl) ?_
  exact Ej Re (by kernel_rfl) (by kernel_rfl) (by kernel_rfl)
theorem Rh : ko Tryz.prog 25 (Ty.iso (cu (cB 9 gP) (cB 52 (Ty.iso (cu (aF .i64) (cu (aF .i64) (cu (aF .i64) (cu (aF .i64) (cB 49 (Ty.iso (cu (aF .i64) (cu (aF .i64) (cu (aF .i64) (cu rW (cB 2 (aF .i64)))))) (fun g : Op => (g.Kind, (g.Key, (g.Arg, (g.Got, g.Vals))))))))))) (fun g : Txn => (g.Proc, (g.Status, (g.From, (g.To, g.Ops)))))))) (fun g : History => (g.Keys, g.Txns))) (fun x => ((∀ y ∈ (x).Keys, (y).size ≤ reachBytes) ∧ ((x).Keys).length * 16 ≤ 140737488351232) ∧ ((∀ y3 ∈ (x).Txns, ((Lit.int .i64 (y3).Proc).wf = true) ∧ ((Lit.int .i64 (y3).Status).wf = true) ∧ ((Lit.int .i64 (y3).From).wf = true) ∧ ((Lit.int .i64 (y3).To).wf = true) ∧ ((∀ y2 ∈ (y3).Ops, ((Lit.int .i64 (y2).Kind).wf = true) ∧ ((Lit.int .i64 (y2).Key).wf = true) ∧ ((Lit.int .i64 (y2).Arg).wf = true) ∧ (True) ∧ ((∀ y ∈ (y2).Vals, (Lit.int .i64 y).wf = true) ∧ ((y2).Vals).length * 8 ≤ 140737488351232)) ∧ ((y3).Ops).length * 56 ≤ 140737488351232)) ∧ ((x).Txns).length * 56 ≤ 140737488351232)) := Ae OM _ (fun x => (⟨x.1, x.2⟩ : History)) (fun _ => rfl)
theorem LX : ko Tryz.prog 26 (cB 3 (aF .i64)) (fun x => (∀ y ∈ x, (Lit.int .i64 y).wf = true) ∧ (x).length * 8 ≤ 140737488351232) := vX Tryz.underlying26 CZ (by kernel_rfl) (by decide) (by kernel_rfl)
theorem OO : ko Tryz.prog 28 (cu (cB 3 (aF .i64)) (cB 3 (aF .i64))) (fun x => ((∀ y ∈ x.1, (Lit.int .i64 y).wf = true) ∧ (x.1).length * 8 ≤ 140737488351232) ∧ ((∀ y ∈ x.2, (Lit.int .i64 y).wf = true) ∧ (x.2).length * 8 ≤ 140737488351232)) := by
  refine uU Tryz.underlying28 ?_ (by kernel_rfl)
  show wU _ [_, _] _ _ _
  refine tO (G' := fun x : (List Int) => ((∀ y ∈ x, (Lit.int .i64 y).wf = true) ∧ (x).length * 8 ≤ 140737488351232)) LX (by kernel_rfl) (by kernel_rfl) (by kernel_rfl) ?_
  exact Ej LX (by kernel_rfl) (by kernel_rfl) (by kernel_rfl)
theorem Ri : ko Tryz.prog 28 (Ty.iso (cu (cB 3 (aF .i64)) (cB 3 (aF .i64))) (fun g : Exec => (g.Order, g.Picks))) (fun x => ((∀ y ∈ (x).Order, (Lit.int .i64 y).wf = true) ∧ ((x).Order).length * 8 ≤ 140737488351232) ∧ ((∀ y ∈ (x).Picks, (Lit.int .i64 y).wf = true) ∧ ((x).Picks).length * 8 ≤ 140737488351232)) := Ae OO _ (fun x => (⟨x.1, x.2⟩ : Exec)) (fun _ => rfl)
theorem SX : Tryz.prog.globalNamed "math/bits.deBruijn64tab" = some 0 := by kernel_rfl
theorem OP : (Tryz.prog.globals[0]?).map (·.type) = some 120 := by kernel_rfl
theorem table {W : World} (h : laidMetH Tryz.prog Rows.depsMustRow.laid W) : QA (aV W).blk := by
  have ht : Lib.TabIs Tryz.prog W "math/bits.deBruijn64tab" .u8 [0, 1, 56, 2, 57, 49, 28, 3, 61, 58, 42, 50, 38, 29, 17, 4, 62, 47, 59, 36, 45, 43, 51, 22, 53, 39, 33, 30, 24, 18, 12, 5, 63, 55, 48, 27, 60, 41, 37, 16, 46, 35, 44, 21, 52, 32, 23, 11, 54, 26, 40, 15, 34, 20, 31, 10, 25, 14, 19, 9, 13, 8, 7, 6] :=
    Lib.tabIs_of_head (rest := []) SX OP Tryz.underlying120 Tryz.underlying5 (by kernel_rfl) (by kernel_rfl) h
  refine .inr ⟨0, 0, rfl, fun j x hj => ⟨[.int .u8 x], rfl, fun i u hu => ?_⟩⟩
  have hj' : j < Ew.length := (List.getElem?_eq_some_iff.1 hj).1
  have hc := ht.cell SX j hj'
  have hx : Ew.getD j 0 = x := by rw [List.getD_eq_getElem?_getD, hj]; rfl
  have e : i = 0 := by have := (List.getElem?_eq_some_iff.1 hu).1; simpa using this
  subst e
  cases hu
  show cellOf (hp W) 0 (0 + j * 1 + 0) = some (.int .u8 x)
  rw [← rV, show 0 + j * 1 + 0 = j by omega, hc, ← hx]
  rfl
theorem readable : ∀ t ∈ Tryz.f3.params.toList, Tryz.prog.readableRec t = true ∧ t < Tryz.prog.types.size := by
  rw [Tryz.params3]
  intro t ht
  have ht : t ∈ [25, 28] := ht
  simp only [List.mem_cons, List.not_mem_nil, or_false] at ht
  rcases ht with rfl | rfl <;> exact ⟨by kernel_rfl, of_decide_eq_true (by kernel_rfl)⟩
theorem contract (H : Type) (enc : TypeId × Value → H) (W : World) (base : Nat) (args : Array Value) (ds gs : List (DataW H)) (before : List MemPlace)
    (hval : ∀ (j : Nat) t v, Tryz.f3.params[j]? = some t → args[j]? = some v → Value.okWide Tryz.prog W .any base t v)
    (hW : DataW.Whole enc Tryz.prog Tryz.f3.params.toList Rows.depsMustSpec.vars false W args.toList ds gs before)
    (hZ : (DataW.weightsEach Tryz.prog (Tryz.f3.params.toList ++ (OpenSpec.ofChange Rows.depsMustSpec).bare.plain.varTypes Tryz.prog) (ds ++ gs)).all (· ≤ reachBytes) = true) (hL : laidMetH Tryz.prog Rows.depsMustRow.laid W) :
    Calls Tryz.prog 3 args W fun e W' => ∃ v, e = .returned v ∧ Rows.depsMustSpec.post enc Tryz.prog Tryz.f3 false true false false W args v W' := by
  have hW' := hW
  obtain ⟨p, q, hA0, hV, hpq, hfz, hnd⟩ := hW
  have hA : DataW.TrodAll enc Tryz.prog W 0 (fun _ => true) true Tryz.f3.params.toList args.toList ds p := hA0
  rw [Tryz.params3] at hA hval hZ
  obtain ⟨v0, vs0, d0, ds0, p0, q0, hargs0, hds0, hpp0, h0, r0⟩ := trodAll_cons hA
  obtain ⟨v1, vs1, d1, ds1, p1, q1, hargs1, hds1, hpp1, h1, r1⟩ := trodAll_cons r0
  obtain ⟨e0, e1, e2⟩ := trodAll_nil r1
  obtain ⟨rfl, rfl⟩ := trodVars_none hV
  subst hds0 hds1 e0 e1
  have hargs : args = #[v0, v1] := by
    cases args with
    | mk l =>
      have hl : l = [v0, v1] := by rw [show l = _ from hargs0, hargs1]
      rw [hl]
  subst hargs
  have hZ' := fun x hx => of_decide_eq_true (List.all_eq_true.1 hZ x hx)
  clear hZ
  have w0 : ∀ n ∈ DataW.weights Tryz.prog 25 d0, n ≤ reachBytes := fun n hm => hZ' n (List.mem_append_left _ hm)
  have w1 : ∀ n ∈ DataW.weights Tryz.prog 28 d1, n ≤ reachBytes := fun n hm => hZ' n (List.mem_append_right _ (List.mem_append_left _ hm))
  obtain ⟨x0, ar0, rfl, k0, g0⟩ := Fa Rh Tryz.underlying25 (hval 0 25 v0 rfl rfl) h0 w0
  obtain ⟨x1, ar1, rfl, k1, g1⟩ := Fa Ri Tryz.underlying28 (hval 1 28 v1 rfl rfl) h1 w1
  obtain ⟨l0⟩ := ar0
  have k0 : Ty.rd _ _ _ l0 := k0
  obtain ⟨_, _, rfl, ⟨As1, cs1, rfl, ls1, rs1⟩, ⟨As2, cs2, rfl, ls2, rs2⟩⟩ := k0
  obtain ⟨l1⟩ := ar1
  have k1 : Ty.rd _ _ _ l1 := k1
  obtain ⟨_, _, rfl, ⟨As3, cs3, rfl, ls3, rs3⟩, ⟨As4, cs4, rfl, ls4, rs4⟩⟩ := k1
  have H := Hr x0 x1 g0 g1
  refine (vN x0 As1 cs1 As2 cs2 x1 As3 cs3 As4 cs4 (aV W) W (Inv.start W) (table hL) rs1 ls1 rs2 ls2 rs3 ls3 rs4 ls4 true H).mono fun e W'' hh => ?_
  obtain ⟨rfl, hI⟩ := hh
  exact ⟨_, rfl, OV (by kernel_rfl) hW' rfl rfl Tryz.underlying4 readable rfl rfl rfl hI.below⟩
noncomputable def Da (os : Os) : World :=
  { World.holding Tryz.prog os ⟨#[], #[], []⟩ with heap := (World.holding Tryz.prog os ⟨#[], #[], []⟩).heap.modify 0 fun
      | .cells _ t frozen => .cells #[.int .u8 0, .int .u8 1, .int .u8 56, .int .u8 2, .int .u8 57, .int .u8 49, .int .u8 28, .int .u8 3, .int .u8 61, .int .u8 58, .int .u8 42, .int .u8 50, .int .u8 38, .int .u8 29, .int .u8 17, .int .u8 4, .int .u8 62, .int .u8 47, .int .u8 59, .int .u8 36, .int .u8 45, .int .u8 43, .int .u8 51, .int .u8 22, .int .u8 53, .int .u8 39, .int .u8 33, .int .u8 30, .int .u8 24, .int .u8 18, .int .u8 12, .int .u8 5, .int .u8 63, .int .u8 55, .int .u8 48, .int .u8 27, .int .u8 60, .int .u8 41, .int .u8 37, .int .u8 16, .int .u8 46, .int .u8 35, .int .u8 44, .int .u8 21, .int .u8 52, .int .u8 32, .int .u8 23, .int .u8 11, .int .u8 54, .int .u8 26, .int .u8 40, .int .u8 15, .int .u8 34, .int .u8 20, .int .u8 31, .int .u8 10, .int .u8 25, .int .u8 14, .int .u8 19, .int .u8 9, .int .u8 13, .int .u8 8, .int .u8 7, .int .u8 6] t frozen
      | o => o }
theorem OQ (os : Os) : laidMet Tryz.prog Rows.depsMustRow.laid ((Da os).forCall (fun _ _ => 0) ⟨#[], #[(.agg #[.slice none 0 0, .slice none 0 0] : Value), (.agg #[.slice none 0 0, .slice none 0 0] : Value)], []⟩).memory :=
  laidMet_of_run' 8 (by kernel_rfl) (by kernel_rfl)
theorem reads (os : Os) {H : Type} (enc : TypeId × Value → H) : ∃ places, DataW.whole enc Tryz.prog ((Da os).forCall (fun _ _ => 0) ⟨#[], #[(.agg #[.slice none 0 0, .slice none 0 0] : Value), (.agg #[.slice none 0 0, .slice none 0 0] : Value)], []⟩).memory Tryz.f3.params.toList Rows.depsMustSpec.vars false (#[(.agg #[.slice none 0 0, .slice none 0 0] : Value), (.agg #[.slice none 0 0, .slice none 0 0] : Value)]).toList 8 = some ([.agg [.nil, .nil], .agg [.nil, .nil]], [], places) :=
  ⟨[], by kernel_rfl⟩
theorem lifted (os : Os) (started : os.Started) (H : Type) (enc : TypeId × Value → H) (F : Stop.Interp) :
    ReturnsInHanded {} Tryz.checked os 3 .any ((OpenSpec.ofChange Rows.depsMustSpec).preRow enc Tryz.prog Tryz.f3 Rows.depsMustRow.domain false Rows.depsMustRow.laid) (((OpenSpec.ofChange Rows.depsMustSpec).at F).post enc Tryz.prog Tryz.f3 false true false false) := by
  obtain ⟨places, hx⟩ := reads os enc
  refine returnsInHanded_of_row (C := Tryz.checked) (s := OpenSpec.ofChange Rows.depsMustSpec) own started (by kernel_rfl) Tryz.func3
    (witness_row_at (enc := enc) (C := Tryz.checked) false (Da os) #[(.agg #[.slice none 0 0, .slice none 0 0] : Value), (.agg #[.slice none 0 0, .slice none 0 0] : Value)] rfl (by kernel_rfl) (by kernel_rfl) (by kernel_rfl)
      (OpenSpec.preRow_of_cond 8 hx (by kernel_rfl) (fun k hk => by cases hk) (by kernel_rfl) (OQ os))) ?_
  intro W base args ds gs before hval hW _ hcond hZ hL _ _
  exact contract H enc W base args ds gs before hval hW hZ hL
theorem said : Rows.DepsMustSaid :=
  OpenClaim.holds_of_cond 3 Tryz.f3 rfl rfl rfl rfl rfl rfl rfl ⟨rfl, rfl, rfl, rfl, rfl⟩ rfl rfl rfl rfl rfl (by kernel_rfl) Tryz.func3 (by kernel_rfl)
    (of_decide_eq_true (by kernel_rfl)) (by unfold Func.isWrapper; first | (rw [if_pos (by decide +kernel)]; kernel_rfl) | (rw [if_neg (by decide +kernel)]; exact ⟨rfl, rfl⟩))
    (fun os started H enc _ F => by rw [OpenClaim.pre_eq_preRow]; exact lifted os started H enc F)
theorem plain (f : FuncId) (fn : Func) (hf : Tryz.pinned.checked.prog.funcNamed "assize/assizelaw19.DepsMust" = some f) (hfn : Tryz.pinned.checked.prog.funcs[f]? = some fn) :
    false = Tryz.pinned.checked.prog.looks [] ∧ ∀ (j : Nat) t, fn.params[j]? = some t → Tryz.pinned.checked.prog.wantsStandIn t = false := by
  obtain rfl : f = 3 := Option.some.inj ((show Tryz.prog.funcNamed "assize/assizelaw19.DepsMust" = some 3 by kernel_rfl).symm.trans hf) |>.symm
  obtain rfl : fn = Tryz.f3 := (Option.some.inj (Tryz.func3.symm.trans hfn)).symm
  refine ⟨by kernel_rfl, fun j t ht => ?_⟩
  rw [Tryz.params3] at ht
  have ht := Array.mem_of_getElem? ht
  have ht : t ∈ [25, 28] := by simpa using ht
  simp only [List.mem_cons, List.not_mem_nil, or_false] at ht
  rcases ht with rfl | rfl
  · exact (show Tryz.prog.wantsStandIn 25 = false by kernel_rfl)
  · exact (show Tryz.prog.wantsStandIn 28 = false by kernel_rfl)
theorem card : Rows.DepsMustCardSaid :=
  Claim7.holds_tied_plain_at .later [] _ _ _ _ said (fun _ h => by cases h) (by kernel_rfl) (fun _ h => by cases h) depsMust_row_tie rfl ⟨rfl, rfl⟩ (by kernel_rfl) rfl plain (by kernel_rfl)
end Go.Proofs.YtfpeabnehpclnaaGreatDoorT
namespace Go.Proofs.YtfpeabnehpclnaaGreatDoor
theorem depsMust_holds : Rows.DepsMustCardSaid := YtfpeabnehpclnaaGreatDoorT.card
end Go.Proofs.YtfpeabnehpclnaaGreatDoor
#print axioms Go.Proofs.YtfpeabnehpclnaaGreatDoor.depsMust_holds
