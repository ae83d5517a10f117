/- The law AxiomWithout: the program's row. No condition is added. -/
import Derived.Test.YtmfgddafcgflaaaRows
import Derived.WalkKit
import Derived.ProofKit
import Derived.OpenShut
import Derived.Deep.DeepHandedRow
import Derived.Lib.LaidTab
import Derived.SevenTiedAt
import Derived.Test.YtmfgddafcgflaaaY
import Derived.Test.YtmfgddafcgflaaaTW1
import Derived.Test.YtmfgddafcgflaaaTW2
import Derived.Test.YtmfgddafcgflaaaTW3
import Derived.Test.YtmfgddafcgflaaaTPAF
namespace Go.Proofs.YtmfgddafcgflaaaT
open Go Go.Proofs Go.Proofs.YtmfgddafcgflaaaE Go.ChangeShapes Go.WideShapes Go.ChangeAt Go.RowKit Go.Proofs.Ytmfgddafcgflaaa
set_option linter.unusedVariables false
set_option linter.unusedSimpArgs false
set_option maxHeartbeats 0
set_option maxRecDepth 100000
theorem own : ownKnob Try.prog.godebug = none := by kernel_rfl
theorem GI : fV Try.prog 9 gG (fun x => (x).size ≤ reachBytes) := CY Try.underlying9
theorem FE : fV Try.prog 22 (bv 9 gG) (fun x => (∀ y ∈ x, (y).size ≤ reachBytes) ∧ (x).length * 16 ≤ 140737488351232) := ol Try.underlying22 GI (by kernel_rfl) (by decide) (by kernel_rfl)
theorem AY : fV Try.prog 2 (aJ .i64) (fun x => (Lit.int .i64 x).wf = true) := yz Try.underlying2
theorem tO : fV Try.prog 3 (aJ .i64) (fun x => (Lit.int .i64 x).wf = true) := yz Try.underlying3
theorem GJ : fV Try.prog 4 oC (fun x => True) := Bd Try.underlying4
theorem FH : fV Try.prog 44 (bv 2 (aJ .i64)) (fun x => (∀ y ∈ x, (Lit.int .i64 y).wf = true) ∧ (x).length * 8 ≤ 140737488351232) := ol Try.underlying44 AY (by kernel_rfl) (by decide) (by kernel_rfl)
theorem DT : fV Try.prog 76 (bB (aJ .i64) (bB (aJ .i64) (bB (aJ .i64) (bB oC (bv 2 (aJ .i64)))))) (fun x => ((Lit.int .i64 x.1).wf = true) ∧ ((Lit.int .i64 x.2.1).wf = true) ∧ ((Lit.int .i64 x.2.2.1).wf = true) ∧ (True) ∧ ((∀ y ∈ x.2.2.2.2, (Lit.int .i64 y).wf = true) ∧ (x.2.2.2.2).length * 8 ≤ 140737488351232)) := by
  refine nI Try.underlying76 ?_ (by kernel_rfl)
  show oW _ [_, _, _, _, _] _ _ _
  refine mH (G' := fun x : Int × Int × Bool × (List Int) => ((Lit.int .i64 x.1).wf = true) ∧ ((Lit.int .i64 x.2.1).wf = true) ∧ (True) ∧ ((∀ y ∈ x.2.2.2, (Lit.int .i64 y).wf = true) ∧ (x.2.2.2).length * 8 ≤ 140737488351232)) tO (by kernel_rfl) (by kernel_rfl) (by kernel_rfl) ?_
  refine mH (G' := fun x : Int × Bool × (List Int) => ((Lit.int .i64 x.1).wf = true) ∧ (True) ∧ ((∀ y ∈ x.2.2, (Lit.int .i64 y).wf = true) ∧ (x.2.2).length * 8 ≤ 140737488351232)) tO (by kernel_rfl) (by kernel_rfl) (by kernel_rfl) ?_
  refine mH (G' := fun x : Bool × (List Int) => (True) ∧ ((∀ y ∈ x.2, (Lit.int .i64 y).wf = true) ∧ (x.2).length * 8 ≤ 140737488351232)) AY (by kernel_rfl) (by kernel_rfl) (by kernel_rfl) ?_
  refine mH (G' := fun x : (List Int) => ((∀ y ∈ x, (Lit.int .i64 y).wf = true) ∧ (x).length * 8 ≤ 140737488351232)) GJ (by kernel_rfl) (by kernel_rfl) (by kernel_rfl) ?_
  exact wN FH (by kernel_rfl) (by kernel_rfl) (by kernel_rfl)
theorem FI : fV Try.prog 76 (Ty.iso (bB (aJ .i64) (bB (aJ .i64) (bB (aJ .i64) (bB oC (bv 2 (aJ .i64)))))) (fun g : Op => (g.Kind, (g.Key, (g.Arg, (g.Got, g.Vals)))))) (fun x => ((Lit.int .i64 (x).Kind).wf = true) ∧ ((Lit.int .i64 (x).Key).wf = true) ∧ ((Lit.int .i64 (x).Arg).wf = true) ∧ (True) ∧ ((∀ y ∈ (x).Vals, (Lit.int .i64 y).wf = true) ∧ ((x).Vals).length * 8 ≤ 140737488351232)) := sD DT _ (fun x => (⟨x.1, x.2.1, x.2.2.1, x.2.2.2.1, x.2.2.2.2⟩ : Op)) (fun _ => rfl)
theorem FJ : fV Try.prog 72 (bv 76 (Ty.iso (bB (aJ .i64) (bB (aJ .i64) (bB (aJ .i64) (bB oC (bv 2 (aJ .i64)))))) (fun g : Op => (g.Kind, (g.Key, (g.Arg, (g.Got, g.Vals))))))) (fun x => (∀ y2 ∈ x, ((Lit.int .i64 (y2).Kind).wf = true) ∧ ((Lit.int .i64 (y2).Key).wf = true) ∧ ((Lit.int .i64 (y2).Arg).wf = true) ∧ (True) ∧ ((∀ y ∈ (y2).Vals, (Lit.int .i64 y).wf = true) ∧ ((y2).Vals).length * 8 ≤ 140737488351232)) ∧ (x).length * 56 ≤ 140737488351232) := ol Try.underlying72 FI (by kernel_rfl) (by decide) (by kernel_rfl)
theorem DU : fV Try.prog 74 (bB (aJ .i64) (bB (aJ .i64) (bB (aJ .i64) (bB (aJ .i64) (bv 76 (Ty.iso (bB (aJ .i64) (bB (aJ .i64) (bB (aJ .i64) (bB oC (bv 2 (aJ .i64)))))) (fun g : Op => (g.Kind, (g.Key, (g.Arg, (g.Got, g.Vals))))))))))) (fun x => ((Lit.int .i64 x.1).wf = true) ∧ ((Lit.int .i64 x.2.1).wf = true) ∧ ((Lit.int .i64 x.2.2.1).wf = true) ∧ ((Lit.int .i64 x.2.2.2.1).wf = true) ∧ ((∀ y2 ∈ x.2.2.2.2, ((Lit.int .i64 (y2).Kind).wf = true) ∧ ((Lit.int .i64 (y2).Key).wf = true) ∧ ((Lit.int .i64 (y2).Arg).wf = true) ∧ (True) ∧ ((∀ y ∈ (y2).Vals, (Lit.int .i64 y).wf = true) ∧ ((y2).Vals).length * 8 ≤ 140737488351232)) ∧ (x.2.2.2.2).length * 56 ≤ 140737488351232)) := by
  refine nI Try.underlying74 ?_ (by kernel_rfl)
  show oW _ [_, _, _, _, _] _ _ _
  refine mH (G' := fun x : Int × Int × Int × (List Op) => ((Lit.int .i64 x.1).wf = true) ∧ ((Lit.int .i64 x.2.1).wf = true) ∧ ((Lit.int .i64 x.2.2.1).wf = true) ∧ ((∀ y2 ∈ x.2.2.2, ((Lit.int .i64 (y2).Kind).wf = true) ∧ ((Lit.int .i64 (y2).Key).wf = true) ∧ ((Lit.int .i64 (y2).Arg).wf = true) ∧ (True) ∧ ((∀ y ∈ (y2).Vals, (Lit.int .i64 y).wf = true) ∧ ((y2).Vals).length * 8 ≤ 140737488351232)) ∧ (x.2.2.2).length * 56 ≤ 140737488351232)) AY (by kernel_rfl) (by kernel_rfl) (by kernel_rfl) ?_
  refine mH (G' := fun x : Int × Int × (List Op) => ((Lit.int .i64 x.1).wf = true) ∧ ((Lit.int .i64 x.2.1).wf = true) ∧ ((∀ y2 ∈ x.2.2, ((Lit.int .i64 (y2).Kind).wf = true) ∧ ((Lit.int .i64 (y2).Key).wf = true) ∧ ((Lit.int .i64 (y2).Arg).wf = true) ∧ (True) ∧ ((∀ y ∈ (y2).Vals, (Lit.int .i64 y).wf = true) ∧ ((y2).Vals).length * 8 ≤ 140737488351232)) ∧ (x.2.2).length * 56 ≤ 140737488351232)) tO (by kernel_rfl) (by kernel_rfl) (by kernel_rfl) ?_
  refine mH (G' := fun x : Int × (List Op) => ((Lit.int .i64 x.1).wf = true) ∧ ((∀ y2 ∈ x.2, ((Lit.int .i64 (y2).Kind).wf = true) ∧ ((Lit.int .i64 (y2).Key).wf = true) ∧ ((Lit.int .i64 (y2).Arg).wf = true) ∧ (True) ∧ ((∀ y ∈ (y2).Vals, (Lit.int .i64 y).wf = true) ∧ ((y2).Vals).length * 8 ≤ 140737488351232)) ∧ (x.2).length * 56 ≤ 140737488351232)) tO (by kernel_rfl) (by kernel_rfl) (by kernel_rfl) ?_
  refine mH (G' := fun x : (List Op) => ((∀ y2 ∈ x, ((Lit.int .i64 (y2).Kind).wf = true) ∧ ((Lit.int .i64 (y2).Key).wf = true) ∧ ((Lit.int .i64 (y2).Arg).wf = true) ∧ (True) ∧ ((∀ y ∈ (y2).Vals, (Lit.int .i64 y).wf = true) ∧ ((y2).Vals).length * 8 ≤ 140737488351232)) ∧ (x).length * 56 ≤ 140737488351232)) tO (by kernel_rfl) (by kernel_rfl) (by kernel_rfl) ?_
  exact wN FJ (by kernel_rfl) (by kernel_rfl) (by kernel_rfl)
theorem FK : fV Try.prog 74 (Ty.iso (bB (aJ .i64) (bB (aJ .i64) (bB (aJ .i64) (bB (aJ .i64) (bv 76 (Ty.iso (bB (aJ .i64) (bB (aJ .i64) (bB (aJ .i64) (bB oC (bv 2 (aJ .i64)))))) (fun g : Op => (g.Kind, (g.Key, (g.Arg, (g.Got, g.Vals))))))))))) (fun g : Txn => (g.Proc, (g.Status, (g.From, (g.To, g.Ops)))))) (fun x => ((Lit.int .i64 (x).Proc).wf = true) ∧ ((Lit.int .i64 (x).Status).wf = true) ∧ ((Lit.int .i64 (x).From).wf = true) ∧ ((Lit.int .i64 (x).To).wf = true) ∧ ((∀ y2 ∈ (x).Ops, ((Lit.int .i64 (y2).Kind).wf = true) ∧ ((Lit.int .i64 (y2).Key).wf = true) ∧ ((Lit.int .i64 (y2).Arg).wf = true) ∧ (True) ∧ ((∀ y ∈ (y2).Vals, (Lit.int .i64 y).wf = true) ∧ ((y2).Vals).length * 8 ≤ 140737488351232)) ∧ ((x).Ops).length * 56 ≤ 140737488351232)) := sD DU _ (fun x => (⟨x.1, x.2.1, x.2.2.1, x.2.2.2.1, x.2.2.2.2⟩ : Txn)) (fun _ => rfl)
theorem FL : fV Try.prog 23 (bv 74 (Ty.iso (bB (aJ .i64) (bB (aJ .i64) (bB (aJ .i64) (bB (aJ .i64) (bv 76 (Ty.iso (bB (aJ .i64) (bB (aJ .i64) (bB (aJ .i64) (bB oC (bv 2 (aJ .i64)))))) (fun g : Op => (g.Kind, (g.Key, (g.Arg, (g.Got, g.Vals))))))))))) (fun g : Txn => (g.Proc, (g.Status, (g.From, (g.To, g.Ops))))))) (fun x => (∀ y3 ∈ x, ((Lit.int .i64 (y3).Proc).wf = true) ∧ ((Lit.int .i64 (y3).Status).wf = true) ∧ ((Lit.int .i64 (y3).From).wf = true) ∧ ((Lit.int .i64 (y3).To).wf = true) ∧ ((∀ y2 ∈ (y3).Ops, ((Lit.int .i64 (y2).Kind).wf = true) ∧ ((Lit.int .i64 (y2).Key).wf = true) ∧ ((Lit.int .i64 (y2).Arg).wf = true) ∧ (True) ∧ ((∀ y ∈ (y2).Vals, (Lit.int .i64 y).wf = true) ∧ ((y2).Vals).length * 8 ≤ 140737488351232)) ∧ ((y3).Ops).length * 56 ≤ 140737488351232)) ∧ (x).length * 56 ≤ 140737488351232) := ol Try.underlying23 FK (by kernel_rfl) (by decide) (by kernel_rfl)
theorem DV : fV Try.prog 25 (bB (bv 9 gG) (bv 74 (Ty.iso (bB (aJ .i64) (bB (aJ .i64) (bB (aJ .i64) (bB (aJ .i64) (bv 76 (Ty.iso (bB (aJ .i64) (bB (aJ .i64) (bB (aJ .i64) (bB oC (bv 2 (aJ .i64)))))) (fun g : Op => (g.Kind, (g.Key, (g.Arg, (g.Got, g.Vals))))))))))) (fun g : Txn => (g.Proc, (g.Status, (g.From, (g.To, g.Ops)))))))) (fun x => ((∀ y ∈ x.1, (y).size ≤ reachBytes) ∧ (x.1).length * 16 ≤ 140737488351232) ∧ ((∀ y3 ∈ x.2, ((Lit.int .i64 (y3).Proc).wf = true) ∧ ((Lit.int .i64 (y3).Status).wf = true) ∧ ((Lit.int .i64 (y3).From).wf = true) ∧ ((Lit.int .i64 (y3).To).wf = true) ∧ ((∀ y2 ∈ (y3).Ops, ((Lit.int .i64 (y2).Kind).wf = true) ∧ ((Lit.int .i64 (y2).Key).wf = true) ∧ ((Lit.int .i64 (y2).Arg).wf = true) ∧ (True) ∧ ((∀ y ∈ (y2).Vals, (Lit.int .i64 y).wf = true) ∧ ((y2).Vals).length * 8 ≤ 140737488351232)) ∧ ((y3).Ops).length * 56 ≤ 140737488351232)) ∧ (x.2).length * 56 ≤ 140737488351232)) := by
  refine nI Try.underlying25 ?_ (by kernel_rfl)
  show oW _ [_, _] _ _ _
  refine mH (G' := fun x : (List Txn) => ((∀ y3 ∈ x, ((Lit.int .i64 (y3).Proc).wf = true) ∧ ((Lit.int .i64 (y3).Status).wf = true) ∧ ((Lit.int .i64 (y3).From).wf = true) ∧ ((Lit.int .i64 (y3).To).wf = true) ∧ ((∀ y2 ∈ (y3).Ops, ((Lit.int .i64 (y2).Kind).wf = true) ∧ ((Lit.int .i64 (y2).Key).wf = true) ∧ ((Lit.int .i64 (y2).Arg).wf = true) ∧ (True) ∧ ((∀ y ∈ (y2).Vals, (Lit.int .i64 y).wf = true) ∧ ((y2).Vals).length * 8 ≤ 140737488351232)) ∧ ((y3).Ops).length * 56 ≤ 140737488351232)) ∧ (x).length * 56 ≤ 140737488351232)) FE (by kernel_rfl) (by kernel_rfl) (by kernel_rfl) ?_
  exact wN FL (by kernel_rfl) (by kernel_rfl) (by kernel_rfl)
theorem FM : fV Try.prog 25 (Ty.iso (bB (bv 9 gG) (bv 74 (Ty.iso (bB (aJ .i64) (bB (aJ .i64) (bB (aJ .i64) (bB (aJ .i64) (bv 76 (Ty.iso (bB (aJ .i64) (bB (aJ .i64) (bB (aJ .i64) (bB oC (bv 2 (aJ .i64)))))) (fun g : Op => (g.Kind, (g.Key, (g.Arg, (g.Got, g.Vals))))))))))) (fun g : Txn => (g.Proc, (g.Status, (g.From, (g.To, g.Ops)))))))) (fun g : History => (g.Keys, g.Txns))) (fun x => ((∀ y ∈ (x).Keys, (y).size ≤ reachBytes) ∧ ((x).Keys).length * 16 ≤ 140737488351232) ∧ ((∀ y3 ∈ (x).Txns, ((Lit.int .i64 (y3).Proc).wf = true) ∧ ((Lit.int .i64 (y3).Status).wf = true) ∧ ((Lit.int .i64 (y3).From).wf = true) ∧ ((Lit.int .i64 (y3).To).wf = true) ∧ ((∀ y2 ∈ (y3).Ops, ((Lit.int .i64 (y2).Kind).wf = true) ∧ ((Lit.int .i64 (y2).Key).wf = true) ∧ ((Lit.int .i64 (y2).Arg).wf = true) ∧ (True) ∧ ((∀ y ∈ (y2).Vals, (Lit.int .i64 y).wf = true) ∧ ((y2).Vals).length * 8 ≤ 140737488351232)) ∧ ((y3).Ops).length * 56 ≤ 140737488351232)) ∧ ((x).Txns).length * 56 ≤ 140737488351232)) := sD DV _ (fun x => (⟨x.1, x.2⟩ : History)) (fun _ => rfl)
theorem BU : fV Try.prog 26 (bv 3 (aJ .i64)) (fun x => (∀ y ∈ x, (Lit.int .i64 y).wf = true) ∧ (x).length * 8 ≤ 140737488351232) := ol Try.underlying26 tO (by kernel_rfl) (by decide) (by kernel_rfl)
theorem DW : fV Try.prog 28 (bB (bv 3 (aJ .i64)) (bv 3 (aJ .i64))) (fun x => ((∀ y ∈ x.1, (Lit.int .i64 y).wf = true) ∧ (x.1).length * 8 ≤ 140737488351232) ∧ ((∀ y ∈ x.2, (Lit.int .i64 y).wf = true) ∧ (x.2).length * 8 ≤ 140737488351232)) := by
  refine nI Try.underlying28 ?_ (by kernel_rfl)
  show oW _ [_, _] _ _ _
  refine mH (G' := fun x : (List Int) => ((∀ y ∈ x, (Lit.int .i64 y).wf = true) ∧ (x).length * 8 ≤ 140737488351232)) BU (by kernel_rfl) (by kernel_rfl) (by kernel_rfl) ?_
  exact wN BU (by kernel_rfl) (by kernel_rfl) (by kernel_rfl)
theorem FN : fV Try.prog 28 (Ty.iso (bB (bv 3 (aJ .i64)) (bv 3 (aJ .i64))) (fun g : Exec => (g.Order, g.Picks))) (fun x => ((∀ y ∈ (x).Order, (Lit.int .i64 y).wf = true) ∧ ((x).Order).length * 8 ≤ 140737488351232) ∧ ((∀ y ∈ (x).Picks, (Lit.int .i64 y).wf = true) ∧ ((x).Picks).length * 8 ≤ 140737488351232)) := sD DW _ (fun x => (⟨x.1, x.2⟩ : Exec)) (fun _ => rfl)
theorem readable : ∀ t ∈ Try.f4.params.toList, Try.prog.readableRec t = true ∧ t < Try.prog.types.size := by
  rw [Try.params4]
  intro t ht
  have ht : t ∈ [25, 28, 3] := ht
  simp only [List.mem_cons, List.not_mem_nil, or_false] at ht
  rcases ht with rfl | rfl | rfl <;> exact ⟨by kernel_rfl, of_decide_eq_true (by kernel_rfl)⟩
theorem contract (H : Type) (enc : TypeId × Value → H) (W : World) (base : Nat) (args : Array Value) (ds gs : List (DataW H)) (before : List MemPlace)
    (hval : ∀ (j : Nat) t v, Try.f4.params[j]? = some t → args[j]? = some v → Value.okWide Try.prog W .any base t v)
    (hW : DataW.Whole enc Try.prog Try.f4.params.toList Rows.axiomWithoutSpec.vars false W args.toList ds gs before)
    (hZ : (DataW.weightsEach Try.prog (Try.f4.params.toList ++ (OpenSpec.ofChange Rows.axiomWithoutSpec).bare.plain.varTypes Try.prog) (ds ++ gs)).all (· ≤ reachBytes) = true) (hL : laidMetH Try.prog Rows.axiomWithoutRow.laid W) :
    Calls Try.prog 4 args W fun e W' => ∃ v, e = .returned v ∧ Rows.axiomWithoutSpec.post enc Try.prog Try.f4 false true false false W args v W' := by
  have hW' := hW
  obtain ⟨p, q, hA0, hV, hpq, hfz, hnd⟩ := hW
  have hA : DataW.TrodAll enc Try.prog W 0 (fun _ => true) true Try.f4.params.toList args.toList ds p := hA0
  rw [Try.params4] at hA hval hZ
  obtain ⟨v0, vs0, d0, ds0, p0, q0, hargs0, hds0, hpp0, h0, r0⟩ := trodAll_cons hA
  obtain ⟨v1, vs1, d1, ds1, p1, q1, hargs1, hds1, hpp1, h1, r1⟩ := trodAll_cons r0
  obtain ⟨v2, vs2, d2, ds2, p2, q2, hargs2, hds2, hpp2, h2, r2⟩ := trodAll_cons r1
  obtain ⟨e0, e1, e2⟩ := trodAll_nil r2
  obtain ⟨rfl, rfl⟩ := trodVars_none hV
  subst hds0 hds1 hds2 e0 e1
  have hargs : args = #[v0, v1, v2] := by
    cases args with
    | mk l =>
      have hl : l = [v0, v1, v2] := by rw [show l = _ from hargs0, hargs1, hargs2]
      rw [hl]
  subst hargs
  have hZ' := fun x hx => of_decide_eq_true (List.all_eq_true.1 hZ x hx)
  clear hZ
  have w0 : ∀ n ∈ DataW.weights Try.prog 25 d0, n ≤ reachBytes := fun n hm => hZ' n (List.mem_append_left _ hm)
  have w1 : ∀ n ∈ DataW.weights Try.prog 28 d1, n ≤ reachBytes := fun n hm => hZ' n (List.mem_append_right _ (List.mem_append_left _ hm))
  have w2 : ∀ n ∈ DataW.weights Try.prog 3 d2, n ≤ reachBytes := fun n hm => hZ' n (List.mem_append_right _ (List.mem_append_right _ (List.mem_append_left _ hm)))
  obtain ⟨x0, ar0, rfl, k0, g0⟩ := xB FM Try.underlying25 (hval 0 25 v0 rfl rfl) h0 w0
  obtain ⟨x1, ar1, rfl, k1, g1⟩ := xB FN Try.underlying28 (hval 1 28 v1 rfl rfl) h1 w1
  obtain ⟨x2, k2, g2⟩ := FQ tO (by rw [Try.underlying3]; intro _ h; cases h) (by rw [Try.underlying3]; intro _ _ h; cases h) (hval 2 3 v2 rfl rfl) h2 w2
  obtain ⟨l0⟩ := ar0
  have k0 : Ty.rd _ _ _ l0 := k0
  obtain ⟨_, _, rfl, ⟨As1, cs1, rfl, ls1, rs1⟩, ⟨As2, cs2, rfl, ls2, rs2⟩⟩ := k0
  obtain ⟨l1⟩ := ar1
  have k1 : Ty.rd _ _ _ l1 := k1
  obtain ⟨_, _, rfl, ⟨As3, cs3, rfl, ls3, rs3⟩, ⟨As4, cs4, rfl, ls4, rs4⟩⟩ := k1
  have e2 : v2 = _ := (List.cons.inj k2).1
  subst e2
  have H := vF x0 x1 x2 g0 g1 g2
  refine (mo x0 As1 cs1 As2 cs2 x1 As3 cs3 As4 cs4 x2 (bf W) W (Inv.start W)  rs1 ls1 rs2 ls2 rs3 ls3 rs4 ls4 true H).mono fun e W'' hh => ?_
  obtain ⟨rfl, hI⟩ := hh
  exact ⟨_, rfl, Eb (by kernel_rfl) hW' rfl rfl Try.underlying4 readable rfl rfl rfl hI.below⟩
noncomputable def vG (os : Os) : World := World.holding Try.prog os ⟨#[], #[], []⟩
theorem DX (os : Os) : laidMet Try.prog Rows.axiomWithoutRow.laid ((vG os).forCall (fun _ _ => 0) ⟨#[], #[(.agg #[.slice none 0 0, .slice none 0 0] : Value), (.agg #[.slice none 0 0, .slice none 0 0] : Value), (.int .i64 0 : Value)], []⟩).memory := laidMet_of_run' 8 (by kernel_rfl) (by kernel_rfl)
theorem reads (os : Os) {H : Type} (enc : TypeId × Value → H) : ∃ places, DataW.whole enc Try.prog ((vG os).forCall (fun _ _ => 0) ⟨#[], #[(.agg #[.slice none 0 0, .slice none 0 0] : Value), (.agg #[.slice none 0 0, .slice none 0 0] : Value), (.int .i64 0 : Value)], []⟩).memory Try.f4.params.toList Rows.axiomWithoutSpec.vars false (#[(.agg #[.slice none 0 0, .slice none 0 0] : Value), (.agg #[.slice none 0 0, .slice none 0 0] : Value), (.int .i64 0 : Value)]).toList 8 = some ([.agg [.nil, .nil], .agg [.nil, .nil], .lit (.int .i64 0)], [], places) :=
  ⟨[], by kernel_rfl⟩
theorem lifted (os : Os) (started : os.Started) (H : Type) (enc : TypeId × Value → H) (F : Stop.Interp) :
    ReturnsInHanded {} Try.checked os 4 .any ((OpenSpec.ofChange Rows.axiomWithoutSpec).preRow enc Try.prog Try.f4 Rows.axiomWithoutRow.domain false Rows.axiomWithoutRow.laid) (((OpenSpec.ofChange Rows.axiomWithoutSpec).at F).post enc Try.prog Try.f4 false true false false) := by
  obtain ⟨places, hx⟩ := reads os enc
  refine returnsInHanded_of_row (C := Try.checked) (s := OpenSpec.ofChange Rows.axiomWithoutSpec) own started (by kernel_rfl) Try.func4
    (witness_row_at (enc := enc) (C := Try.checked) false (vG os) #[(.agg #[.slice none 0 0, .slice none 0 0] : Value), (.agg #[.slice none 0 0, .slice none 0 0] : Value), (.int .i64 0 : Value)] rfl (by kernel_rfl) (by kernel_rfl) (by kernel_rfl)
      (OpenSpec.preRow_of_cond 8 hx (by kernel_rfl) (fun k hk => by cases hk) (by kernel_rfl) (DX os))) ?_
  intro W base args ds gs before hval hW _ hcond hZ hL _ _
  exact contract H enc W base args ds gs before hval hW hZ hL
theorem said : Rows.AxiomWithoutSaid :=
  OpenClaim.holds_of_cond 4 Try.f4 rfl rfl rfl rfl rfl rfl rfl ⟨rfl, rfl, rfl, rfl, rfl⟩ rfl rfl rfl rfl rfl (by kernel_rfl) Try.func4 (by kernel_rfl)
    (of_decide_eq_true (by kernel_rfl)) (by unfold Func.isWrapper; first | (rw [if_pos (by decide +kernel)]; kernel_rfl) | (rw [if_neg (by decide +kernel)]; exact ⟨rfl, rfl⟩))
    (fun os started H enc _ F => by rw [OpenClaim.pre_eq_preRow]; exact lifted os started H enc F)
end Go.Proofs.YtmfgddafcgflaaaT
namespace Go.Proofs.Ytmfgddafcgflaaa
theorem axiomWithout_holds : Rows.AxiomWithoutSaid := YtmfgddafcgflaaaT.said
end Go.Proofs.Ytmfgddafcgflaaa
#print axioms Go.Proofs.Ytmfgddafcgflaaa.axiomWithout_holds
