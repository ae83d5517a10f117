/- The law AxiomLast: the program's row. No condition is added. -/
import Derived.Test.YtmfgddafcgflaaaRows
import Derived.WalkKit
import Derived.ProofKit
import Derived.OpenShut
import Derived.Deep.DeepHandedRow
import Derived.Lib.LaidTab
import Derived.SevenTiedAt
import Derived.Test.YtmfgddafcgflaaaY
import Derived.Test.YtmfgddafcgflaaaTW1
import Derived.Test.YtmfgddafcgflaaaTW2
import Derived.Test.YtmfgddafcgflaaaTW3
import Derived.Test.YtmfgddafcgflaaaTPAG
namespace Go.Proofs.YtmfgddafcgflaaaT
open Go Go.Proofs Go.Proofs.YtmfgddafcgflaaaE Go.ChangeShapes Go.WideShapes Go.ChangeAt Go.RowKit Go.Proofs.Ytmfgddafcgflaaa
set_option linter.unusedVariables false
set_option linter.unusedSimpArgs false
set_option maxHeartbeats 0
set_option maxRecDepth 100000
theorem own : ownKnob Try.prog.godebug = none := by kernel_rfl
theorem GJ : gH Try.prog 9 fZ (fun x => (x).size ≤ reachBytes) := Db Try.underlying9
theorem FK : gH Try.prog 22 (bv 9 fZ) (fun x => (∀ y ∈ x, (y).size ≤ reachBytes) ∧ (x).length * 16 ≤ 140737488351232) := ou Try.underlying22 GJ (by kernel_rfl) (by decide) (by kernel_rfl)
theorem AZ : gH Try.prog 2 (aJ .i64) (fun x => (Lit.int .i64 x).wf = true) := yx Try.underlying2
theorem vK : gH Try.prog 3 (aJ .i64) (fun x => (Lit.int .i64 x).wf = true) := yx Try.underlying3
theorem GK : gH Try.prog 4 oC (fun x => True) := Bl Try.underlying4
theorem FL : gH Try.prog 44 (bv 2 (aJ .i64)) (fun x => (∀ y ∈ x, (Lit.int .i64 y).wf = true) ∧ (x).length * 8 ≤ 140737488351232) := ou Try.underlying44 AZ (by kernel_rfl) (by decide) (by kernel_rfl)
theorem DX : gH Try.prog 76 (bE (aJ .i64) (bE (aJ .i64) (bE (aJ .i64) (bE oC (bv 2 (aJ .i64)))))) (fun x => ((Lit.int .i64 x.1).wf = true) ∧ ((Lit.int .i64 x.2.1).wf = true) ∧ ((Lit.int .i64 x.2.2.1).wf = true) ∧ (True) ∧ ((∀ y ∈ x.2.2.2.2, (Lit.int .i64 y).wf = true) ∧ (x.2.2.2.2).length * 8 ≤ 140737488351232)) := by
  refine nM Try.underlying76 ?_ (by kernel_rfl)
  show pq _ [_, _, _, _, _] _ _ _
  refine mO (G' := fun x : Int × Int × Bool × (List Int) => ((Lit.int .i64 x.1).wf = true) ∧ ((Lit.int .i64 x.2.1).wf = true) ∧ (True) ∧ ((∀ y ∈ x.2.2.2, (Lit.int .i64 y).wf = true) ∧ (x.2.2.2).length * 8 ≤ 140737488351232)) vK (by kernel_rfl) (by kernel_rfl) (by kernel_rfl) ?_
  refine mO (G' := fun x : Int × Bool × (List Int) => ((Lit.int .i64 x.1).wf = true) ∧ (True) ∧ ((∀ y ∈ x.2.2, (Lit.int .i64 y).wf = true) ∧ (x.2.2).length * 8 ≤ 140737488351232)) vK (by kernel_rfl) (by kernel_rfl) (by kernel_rfl) ?_
  refine mO (G' := fun x : Bool × (List Int) => (True) ∧ ((∀ y ∈ x.2, (Lit.int .i64 y).wf = true) ∧ (x.2).length * 8 ≤ 140737488351232)) AZ (by kernel_rfl) (by kernel_rfl) (by kernel_rfl) ?_
  refine mO (G' := fun x : (List Int) => ((∀ y ∈ x, (Lit.int .i64 y).wf = true) ∧ (x).length * 8 ≤ 140737488351232)) GK (by kernel_rfl) (by kernel_rfl) (by kernel_rfl) ?_
  exact wQ FL (by kernel_rfl) (by kernel_rfl) (by kernel_rfl)
theorem FM : gH Try.prog 76 (Ty.iso (bE (aJ .i64) (bE (aJ .i64) (bE (aJ .i64) (bE oC (bv 2 (aJ .i64)))))) (fun g : Op => (g.Kind, (g.Key, (g.Arg, (g.Got, g.Vals)))))) (fun x => ((Lit.int .i64 (x).Kind).wf = true) ∧ ((Lit.int .i64 (x).Key).wf = true) ∧ ((Lit.int .i64 (x).Arg).wf = true) ∧ (True) ∧ ((∀ y ∈ (x).Vals, (Lit.int .i64 y).wf = true) ∧ ((x).Vals).length * 8 ≤ 140737488351232)) := sM DX _ (fun x => (⟨x.1, x.2.1, x.2.2.1, x.2.2.2.1, x.2.2.2.2⟩ : Op)) (fun _ => rfl)
theorem FN : gH Try.prog 72 (bv 76 (Ty.iso (bE (aJ .i64) (bE (aJ .i64) (bE (aJ .i64) (bE oC (bv 2 (aJ .i64)))))) (fun g : Op => (g.Kind, (g.Key, (g.Arg, (g.Got, g.Vals))))))) (fun x => (∀ y2 ∈ x, ((Lit.int .i64 (y2).Kind).wf = true) ∧ ((Lit.int .i64 (y2).Key).wf = true) ∧ ((Lit.int .i64 (y2).Arg).wf = true) ∧ (True) ∧ ((∀ y ∈ (y2).Vals, (Lit.int .i64 y).wf = true) ∧ ((y2).Vals).length * 8 ≤ 140737488351232)) ∧ (x).length * 56 ≤ 140737488351232) := ou Try.underlying72 FM (by kernel_rfl) (by decide) (by kernel_rfl)
theorem DY : gH Try.prog 74 (bE (aJ .i64) (bE (aJ .i64) (bE (aJ .i64) (bE (aJ .i64) (bv 76 (Ty.iso (bE (aJ .i64) (bE (aJ .i64) (bE (aJ .i64) (bE oC (bv 2 (aJ .i64)))))) (fun g : Op => (g.Kind, (g.Key, (g.Arg, (g.Got, g.Vals))))))))))) (fun x => ((Lit.int .i64 x.1).wf = true) ∧ ((Lit.int .i64 x.2.1).wf = true) ∧ ((Lit.int .i64 x.2.2.1).wf = true) ∧ ((Lit.int .i64 x.2.2.2.1).wf = true) ∧ ((∀ y2 ∈ x.2.2.2.2, ((Lit.int .i64 (y2).Kind).wf = true) ∧ ((Lit.int .i64 (y2).Key).wf = true) ∧ ((Lit.int .i64 (y2).Arg).wf = true) ∧ (True) ∧ ((∀ y ∈ (y2).Vals, (Lit.int .i64 y).wf = true) ∧ ((y2).Vals).length * 8 ≤ 140737488351232)) ∧ (x.2.2.2.2).length * 56 ≤ 140737488351232)) := by
  refine nM Try.underlying74 ?_ (by kernel_rfl)
  show pq _ [_, _, _, _, _] _ _ _
  refine mO (G' := fun x : Int × Int × Int × (List Op) => ((Lit.int .i64 x.1).wf = true) ∧ ((Lit.int .i64 x.2.1).wf = true) ∧ ((Lit.int .i64 x.2.2.1).wf = true) ∧ ((∀ y2 ∈ x.2.2.2, ((Lit.int .i64 (y2).Kind).wf = true) ∧ ((Lit.int .i64 (y2).Key).wf = true) ∧ ((Lit.int .i64 (y2).Arg).wf = true) ∧ (True) ∧ ((∀ y ∈ (y2).Vals, (Lit.int .i64 y).wf = true) ∧ ((y2).Vals).length * 8 ≤ 140737488351232)) ∧ (x.2.2.2).length * 56 ≤ 140737488351232)) AZ (by kernel_rfl) (by kernel_rfl) (by kernel_rfl) ?_
  refine mO (G' := fun x : Int × Int × (List Op) => ((Lit.int .i64 x.1).wf = true) ∧ ((Lit.int .i64 x.2.1).wf = true) ∧ ((∀ y2 ∈ x.2.2, ((Lit.int .i64 (y2).Kind).wf = true) ∧ ((Lit.int .i64 (y2).Key).wf = true) ∧ ((Lit.int .i64 (y2).Arg).wf = true) ∧ (True) ∧ ((∀ y ∈ (y2).Vals, (Lit.int .i64 y).wf = true) ∧ ((y2).Vals).length * 8 ≤ 140737488351232)) ∧ (x.2.2).length * 56 ≤ 140737488351232)) vK (by kernel_rfl) (by kernel_rfl) (by kernel_rfl) ?_
  refine mO (G' := fun x : Int × (List Op) => ((Lit.int .i64 x.1).wf = true) ∧ ((∀ y2 ∈ x.2, ((Lit.int .i64 (y2).Kind).wf = true) ∧ ((Lit.int .i64 (y2).Key).wf = true) ∧ ((Lit.int .i64 (y2).Arg).wf = true) ∧ (True) ∧ ((∀ y ∈ (y2).Vals, (Lit.int .i64 y).wf = true) ∧ ((y2).Vals).length * 8 ≤ 140737488351232)) ∧ (x.2).length * 56 ≤ 140737488351232)) vK (by kernel_rfl) (by kernel_rfl) (by kernel_rfl) ?_
  refine mO (G' := fun x : (List Op) => ((∀ y2 ∈ x, ((Lit.int .i64 (y2).Kind).wf = true) ∧ ((Lit.int .i64 (y2).Key).wf = true) ∧ ((Lit.int .i64 (y2).Arg).wf = true) ∧ (True) ∧ ((∀ y ∈ (y2).Vals, (Lit.int .i64 y).wf = true) ∧ ((y2).Vals).length * 8 ≤ 140737488351232)) ∧ (x).length * 56 ≤ 140737488351232)) vK (by kernel_rfl) (by kernel_rfl) (by kernel_rfl) ?_
  exact wQ FN (by kernel_rfl) (by kernel_rfl) (by kernel_rfl)
theorem FO : gH Try.prog 74 (Ty.iso (bE (aJ .i64) (bE (aJ .i64) (bE (aJ .i64) (bE (aJ .i64) (bv 76 (Ty.iso (bE (aJ .i64) (bE (aJ .i64) (bE (aJ .i64) (bE oC (bv 2 (aJ .i64)))))) (fun g : Op => (g.Kind, (g.Key, (g.Arg, (g.Got, g.Vals))))))))))) (fun g : Txn => (g.Proc, (g.Status, (g.From, (g.To, g.Ops)))))) (fun x => ((Lit.int .i64 (x).Proc).wf = true) ∧ ((Lit.int .i64 (x).Status).wf = true) ∧ ((Lit.int .i64 (x).From).wf = true) ∧ ((Lit.int .i64 (x).To).wf = true) ∧ ((∀ y2 ∈ (x).Ops, ((Lit.int .i64 (y2).Kind).wf = true) ∧ ((Lit.int .i64 (y2).Key).wf = true) ∧ ((Lit.int .i64 (y2).Arg).wf = true) ∧ (True) ∧ ((∀ y ∈ (y2).Vals, (Lit.int .i64 y).wf = true) ∧ ((y2).Vals).length * 8 ≤ 140737488351232)) ∧ ((x).Ops).length * 56 ≤ 140737488351232)) := sM DY _ (fun x => (⟨x.1, x.2.1, x.2.2.1, x.2.2.2.1, x.2.2.2.2⟩ : Txn)) (fun _ => rfl)
theorem FP : gH Try.prog 23 (bv 74 (Ty.iso (bE (aJ .i64) (bE (aJ .i64) (bE (aJ .i64) (bE (aJ .i64) (bv 76 (Ty.iso (bE (aJ .i64) (bE (aJ .i64) (bE (aJ .i64) (bE oC (bv 2 (aJ .i64)))))) (fun g : Op => (g.Kind, (g.Key, (g.Arg, (g.Got, g.Vals))))))))))) (fun g : Txn => (g.Proc, (g.Status, (g.From, (g.To, g.Ops))))))) (fun x => (∀ y3 ∈ x, ((Lit.int .i64 (y3).Proc).wf = true) ∧ ((Lit.int .i64 (y3).Status).wf = true) ∧ ((Lit.int .i64 (y3).From).wf = true) ∧ ((Lit.int .i64 (y3).To).wf = true) ∧ ((∀ y2 ∈ (y3).Ops, ((Lit.int .i64 (y2).Kind).wf = true) ∧ ((Lit.int .i64 (y2).Key).wf = true) ∧ ((Lit.int .i64 (y2).Arg).wf = true) ∧ (True) ∧ ((∀ y ∈ (y2).Vals, (Lit.int .i64 y).wf = true) ∧ ((y2).Vals).length * 8 ≤ 140737488351232)) ∧ ((y3).Ops).length * 56 ≤ 140737488351232)) ∧ (x).length * 56 ≤ 140737488351232) := ou Try.underlying23 FO (by kernel_rfl) (by decide) (by kernel_rfl)
theorem DZ : gH Try.prog 25 (bE (bv 9 fZ) (bv 74 (Ty.iso (bE (aJ .i64) (bE (aJ .i64) (bE (aJ .i64) (bE (aJ .i64) (bv 76 (Ty.iso (bE (aJ .i64) (bE (aJ .i64) (bE (aJ .i64) (bE oC (bv 2 (aJ .i64)))))) (fun g : Op => (g.Kind, (g.Key, (g.Arg, (g.Got, g.Vals))))))))))) (fun g : Txn => (g.Proc, (g.Status, (g.From, (g.To, g.Ops)))))))) (fun x => ((∀ y ∈ x.1, (y).size ≤ reachBytes) ∧ (x.1).length * 16 ≤ 140737488351232) ∧ ((∀ y3 ∈ x.2, ((Lit.int .i64 (y3).Proc).wf = true) ∧ ((Lit.int .i64 (y3).Status).wf = true) ∧ ((Lit.int .i64 (y3).From).wf = true) ∧ ((Lit.int .i64 (y3).To).wf = true) ∧ ((∀ y2 ∈ (y3).Ops, ((Lit.int .i64 (y2).Kind).wf = true) ∧ ((Lit.int .i64 (y2).Key).wf = true) ∧ ((Lit.int .i64 (y2).Arg).wf = true) ∧ (True) ∧ ((∀ y ∈ (y2).Vals, (Lit.int .i64 y).wf = true) ∧ ((y2).Vals).length * 8 ≤ 140737488351232)) ∧ ((y3).Ops).length * 56 ≤ 140737488351232)) ∧ (x.2).length * 56 ≤ 140737488351232)) := by
  refine nM Try.underlying25 ?_ (by kernel_rfl)
  show pq _ [_, _] _ _ _
  refine mO (G' := fun x : (List Txn) => ((∀ y3 ∈ x, ((Lit.int .i64 (y3).Proc).wf = true) ∧ ((Lit.int .i64 (y3).Status).wf = true) ∧ ((Lit.int .i64 (y3).From).wf = true) ∧ ((Lit.int .i64 (y3).To).wf = true) ∧ ((∀ y2 ∈ (y3).Ops, ((Lit.int .i64 (y2).Kind).wf = true) ∧ ((Lit.int .i64 (y2).Key).wf = true) ∧ ((Lit.int .i64 (y2).Arg).wf = true) ∧ (True) ∧ ((∀ y ∈ (y2).Vals, (Lit.int .i64 y).wf = true) ∧ ((y2).Vals).length * 8 ≤ 140737488351232)) ∧ ((y3).Ops).length * 56 ≤ 140737488351232)) ∧ (x).length * 56 ≤ 140737488351232)) FK (by kernel_rfl) (by kernel_rfl) (by kernel_rfl) ?_
  exact wQ FP (by kernel_rfl) (by kernel_rfl) (by kernel_rfl)
theorem FQ : gH Try.prog 25 (Ty.iso (bE (bv 9 fZ) (bv 74 (Ty.iso (bE (aJ .i64) (bE (aJ .i64) (bE (aJ .i64) (bE (aJ .i64) (bv 76 (Ty.iso (bE (aJ .i64) (bE (aJ .i64) (bE (aJ .i64) (bE oC (bv 2 (aJ .i64)))))) (fun g : Op => (g.Kind, (g.Key, (g.Arg, (g.Got, g.Vals))))))))))) (fun g : Txn => (g.Proc, (g.Status, (g.From, (g.To, g.Ops)))))))) (fun g : History => (g.Keys, g.Txns))) (fun x => ((∀ y ∈ (x).Keys, (y).size ≤ reachBytes) ∧ ((x).Keys).length * 16 ≤ 140737488351232) ∧ ((∀ y3 ∈ (x).Txns, ((Lit.int .i64 (y3).Proc).wf = true) ∧ ((Lit.int .i64 (y3).Status).wf = true) ∧ ((Lit.int .i64 (y3).From).wf = true) ∧ ((Lit.int .i64 (y3).To).wf = true) ∧ ((∀ y2 ∈ (y3).Ops, ((Lit.int .i64 (y2).Kind).wf = true) ∧ ((Lit.int .i64 (y2).Key).wf = true) ∧ ((Lit.int .i64 (y2).Arg).wf = true) ∧ (True) ∧ ((∀ y ∈ (y2).Vals, (Lit.int .i64 y).wf = true) ∧ ((y2).Vals).length * 8 ≤ 140737488351232)) ∧ ((y3).Ops).length * 56 ≤ 140737488351232)) ∧ ((x).Txns).length * 56 ≤ 140737488351232)) := sM DZ _ (fun x => (⟨x.1, x.2⟩ : History)) (fun _ => rfl)
theorem BX : gH Try.prog 26 (bv 3 (aJ .i64)) (fun x => (∀ y ∈ x, (Lit.int .i64 y).wf = true) ∧ (x).length * 8 ≤ 140737488351232) := ou Try.underlying26 vK (by kernel_rfl) (by decide) (by kernel_rfl)
theorem Ea : gH Try.prog 28 (bE (bv 3 (aJ .i64)) (bv 3 (aJ .i64))) (fun x => ((∀ y ∈ x.1, (Lit.int .i64 y).wf = true) ∧ (x.1).length * 8 ≤ 140737488351232) ∧ ((∀ y ∈ x.2, (Lit.int .i64 y).wf = true) ∧ (x.2).length * 8 ≤ 140737488351232)) := by
  refine nM Try.underlying28 ?_ (by kernel_rfl)
  show pq _ [_, _] _ _ _
  refine mO (G' := fun x : (List Int) => ((∀ y ∈ x, (Lit.int .i64 y).wf = true) ∧ (x).length * 8 ≤ 140737488351232)) BX (by kernel_rfl) (by kernel_rfl) (by kernel_rfl) ?_
  exact wQ BX (by kernel_rfl) (by kernel_rfl) (by kernel_rfl)
theorem FR : gH Try.prog 28 (Ty.iso (bE (bv 3 (aJ .i64)) (bv 3 (aJ .i64))) (fun g : Exec => (g.Order, g.Picks))) (fun x => ((∀ y ∈ (x).Order, (Lit.int .i64 y).wf = true) ∧ ((x).Order).length * 8 ≤ 140737488351232) ∧ ((∀ y ∈ (x).Picks, (Lit.int .i64 y).wf = true) ∧ ((x).Picks).length * 8 ≤ 140737488351232)) := sM Ea _ (fun x => (⟨x.1, x.2⟩ : Exec)) (fun _ => rfl)
theorem readable : ∀ t ∈ Try.f5.params.toList, Try.prog.readableRec t = true ∧ t < Try.prog.types.size := by
  rw [Try.params5]
  intro t ht
  have ht : t ∈ [25, 28] := ht
  simp only [List.mem_cons, List.not_mem_nil, or_false] at ht
  rcases ht with rfl | rfl <;> exact ⟨by kernel_rfl, of_decide_eq_true (by kernel_rfl)⟩
theorem contract (H : Type) (enc : TypeId × Value → H) (W : World) (base : Nat) (args : Array Value) (ds gs : List (DataW H)) (before : List MemPlace)
    (hval : ∀ (j : Nat) t v, Try.f5.params[j]? = some t → args[j]? = some v → Value.okWide Try.prog W .any base t v)
    (hW : DataW.Whole enc Try.prog Try.f5.params.toList Rows.axiomLastSpec.vars false W args.toList ds gs before)
    (hZ : (DataW.weightsEach Try.prog (Try.f5.params.toList ++ (OpenSpec.ofChange Rows.axiomLastSpec).bare.plain.varTypes Try.prog) (ds ++ gs)).all (· ≤ reachBytes) = true) (hL : laidMetH Try.prog Rows.axiomLastRow.laid W) :
    Calls Try.prog 5 args W fun e W' => ∃ v, e = .returned v ∧ Rows.axiomLastSpec.post enc Try.prog Try.f5 false true false false W args v W' := by
  have hW' := hW
  obtain ⟨p, q, hA0, hV, hpq, hfz, hnd⟩ := hW
  have hA : DataW.TrodAll enc Try.prog W 0 (fun _ => true) true Try.f5.params.toList args.toList ds p := hA0
  rw [Try.params5] at hA hval hZ
  obtain ⟨v0, vs0, d0, ds0, p0, q0, hargs0, hds0, hpp0, h0, r0⟩ := trodAll_cons hA
  obtain ⟨v1, vs1, d1, ds1, p1, q1, hargs1, hds1, hpp1, h1, r1⟩ := trodAll_cons r0
  obtain ⟨e0, e1, e2⟩ := trodAll_nil r1
  obtain ⟨rfl, rfl⟩ := trodVars_none hV
  subst hds0 hds1 e0 e1
  have hargs : args = #[v0, v1] := by
    cases args with
    | mk l =>
      have hl : l = [v0, v1] := by rw [show l = _ from hargs0, hargs1]
      rw [hl]
  subst hargs
  have hZ' := fun x hx => of_decide_eq_true (List.all_eq_true.1 hZ x hx)
  clear hZ
  have w0 : ∀ n ∈ DataW.weights Try.prog 25 d0, n ≤ reachBytes := fun n hm => hZ' n (List.mem_append_left _ hm)
  have w1 : ∀ n ∈ DataW.weights Try.prog 28 d1, n ≤ reachBytes := fun n hm => hZ' n (List.mem_append_right _ (List.mem_append_left _ hm))
  obtain ⟨x0, ar0, rfl, k0, g0⟩ := xE FQ Try.underlying25 (hval 0 25 v0 rfl rfl) h0 w0
  obtain ⟨x1, ar1, rfl, k1, g1⟩ := xE FR Try.underlying28 (hval 1 28 v1 rfl rfl) h1 w1
  obtain ⟨l0⟩ := ar0
  have k0 : Ty.rd _ _ _ l0 := k0
  obtain ⟨_, _, rfl, ⟨As1, cs1, rfl, ls1, rs1⟩, ⟨As2, cs2, rfl, ls2, rs2⟩⟩ := k0
  obtain ⟨l1⟩ := ar1
  have k1 : Ty.rd _ _ _ l1 := k1
  obtain ⟨_, _, rfl, ⟨As3, cs3, rfl, ls3, rs3⟩, ⟨As4, cs4, rfl, ls4, rs4⟩⟩ := k1
  have H := xY x0 x1 g0 g1
  refine (nL x0 As1 cs1 As2 cs2 x1 As3 cs3 As4 cs4 (aX W) W (Inv.start W)  rs1 ls1 rs2 ls2 rs3 ls3 rs4 ls4 true H).mono fun e W'' hh => ?_
  obtain ⟨rfl, hI⟩ := hh
  exact ⟨_, rfl, Em (by kernel_rfl) hW' rfl rfl Try.underlying4 readable rfl rfl rfl hI.below⟩
noncomputable def vL (os : Os) : World := World.holding Try.prog os ⟨#[], #[], []⟩
theorem Eb (os : Os) : laidMet Try.prog Rows.axiomLastRow.laid ((vL os).forCall (fun _ _ => 0) ⟨#[], #[(.agg #[.slice none 0 0, .slice none 0 0] : Value), (.agg #[.slice none 0 0, .slice none 0 0] : Value)], []⟩).memory := laidMet_of_run' 8 (by kernel_rfl) (by kernel_rfl)
theorem reads (os : Os) {H : Type} (enc : TypeId × Value → H) : ∃ places, DataW.whole enc Try.prog ((vL os).forCall (fun _ _ => 0) ⟨#[], #[(.agg #[.slice none 0 0, .slice none 0 0] : Value), (.agg #[.slice none 0 0, .slice none 0 0] : Value)], []⟩).memory Try.f5.params.toList Rows.axiomLastSpec.vars false (#[(.agg #[.slice none 0 0, .slice none 0 0] : Value), (.agg #[.slice none 0 0, .slice none 0 0] : Value)]).toList 8 = some ([.agg [.nil, .nil], .agg [.nil, .nil]], [], places) :=
  ⟨[], by kernel_rfl⟩
theorem lifted (os : Os) (started : os.Started) (H : Type) (enc : TypeId × Value → H) (F : Stop.Interp) :
    ReturnsInHanded {} Try.checked os 5 .any ((OpenSpec.ofChange Rows.axiomLastSpec).preRow enc Try.prog Try.f5 Rows.axiomLastRow.domain false Rows.axiomLastRow.laid) (((OpenSpec.ofChange Rows.axiomLastSpec).at F).post enc Try.prog Try.f5 false true false false) := by
  obtain ⟨places, hx⟩ := reads os enc
  refine returnsInHanded_of_row (C := Try.checked) (s := OpenSpec.ofChange Rows.axiomLastSpec) own started (by kernel_rfl) Try.func5
    (witness_row_at (enc := enc) (C := Try.checked) false (vL os) #[(.agg #[.slice none 0 0, .slice none 0 0] : Value), (.agg #[.slice none 0 0, .slice none 0 0] : Value)] rfl (by kernel_rfl) (by kernel_rfl) (by kernel_rfl)
      (OpenSpec.preRow_of_cond 8 hx (by kernel_rfl) (fun k hk => by cases hk) (by kernel_rfl) (Eb os))) ?_
  intro W base args ds gs before hval hW _ hcond hZ hL _ _
  exact contract H enc W base args ds gs before hval hW hZ hL
theorem said : Rows.AxiomLastSaid :=
  OpenClaim.holds_of_cond 5 Try.f5 rfl rfl rfl rfl rfl rfl rfl ⟨rfl, rfl, rfl, rfl, rfl⟩ rfl rfl rfl rfl rfl (by kernel_rfl) Try.func5 (by kernel_rfl)
    (of_decide_eq_true (by kernel_rfl)) (by unfold Func.isWrapper; first | (rw [if_pos (by decide +kernel)]; kernel_rfl) | (rw [if_neg (by decide +kernel)]; exact ⟨rfl, rfl⟩))
    (fun os started H enc _ F => by rw [OpenClaim.pre_eq_preRow]; exact lifted os started H enc F)
end Go.Proofs.YtmfgddafcgflaaaT
namespace Go.Proofs.Ytmfgddafcgflaaa
theorem axiomLast_holds : Rows.AxiomLastSaid := YtmfgddafcgflaaaT.said
end Go.Proofs.Ytmfgddafcgflaaa
#print axioms Go.Proofs.Ytmfgddafcgflaaa.axiomLast_holds
