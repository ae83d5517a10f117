/- The law AxiomKeeps: the program's row. No condition is added. -/
import Derived.Test.YtmfgddafcgflaaaGreatRows
import Derived.WalkKit
import Derived.ProofKit
import Derived.OpenShut
import Derived.Deep.DeepHandedRow
import Derived.Lib.LaidTab
import Derived.SevenTiedAt
import Derived.Test.YtmfgddafcgflaaaGreatY
import Derived.Test.YtmfgddafcgflaaaGreatTW1
import Derived.Test.YtmfgddafcgflaaaGreatTW2
import Derived.Test.YtmfgddafcgflaaaGreatTW3
import Derived.Test.YtmfgddafcgflaaaGreatTW4
import Derived.Test.YtmfgddafcgflaaaGreatTPAD
namespace Go.Proofs.YtmfgddafcgflaaaGreatT
open Go Go.Proofs Go.Proofs.YtmfgddafcgflaaaGreatE Go.ChangeShapes Go.WideShapes Go.ChangeAt Go.RowKit Go.Proofs.YtmfgddafcgflaaaGreat
set_option linter.unusedVariables false
set_option linter.unusedSimpArgs false
set_option maxHeartbeats 0
set_option maxRecDepth 100000
theorem own : ownKnob Tryz.prog.godebug = none := by kernel_rfl
theorem Jy : iE Tryz.prog 9 fq (fun x => (x).size ≤ reachBytes) := EX Tryz.underlying9
theorem IA : iE Tryz.prog 22 (bz 9 fq) (fun x => (∀ y ∈ x, (y).size ≤ reachBytes) ∧ (x).length * 16 ≤ 140737488351232) := qB Tryz.underlying22 Jy (by kernel_rfl) (by decide) (by kernel_rfl)
theorem De : iE Tryz.prog 2 (aJ .i64) (fun x => (Lit.int .i64 x).wf = true) := Ao Tryz.underlying2
theorem wu : iE Tryz.prog 3 (aJ .i64) (fun x => (Lit.int .i64 x).wf = true) := Ao Tryz.underlying3
theorem Jz : iE Tryz.prog 4 oU (fun x => True) := Di Tryz.underlying4
theorem IB : iE Tryz.prog 58 (bz 2 (aJ .i64)) (fun x => (∀ y ∈ x, (Lit.int .i64 y).wf = true) ∧ (x).length * 8 ≤ 140737488351232) := qB Tryz.underlying58 De (by kernel_rfl) (by decide) (by kernel_rfl)
theorem Ga : iE Tryz.prog 60 (bM (aJ .i64) (bM (aJ .i64) (bM (aJ .i64) (bM oU (bz 2 (aJ .i64)))))) (fun x => ((Lit.int .i64 x.1).wf = true) ∧ ((Lit.int .i64 x.2.1).wf = true) ∧ ((Lit.int .i64 x.2.2.1).wf = true) ∧ (True) ∧ ((∀ y ∈ x.2.2.2.2, (Lit.int .i64 y).wf = true) ∧ (x.2.2.2.2).length * 8 ≤ 140737488351232)) := by
  refine qa Tryz.underlying60 ?_ (by kernel_rfl)
  show qX _ [_, _, _, _, _] _ _ _
  refine oK (G' := fun x : Int × Int × Bool × (List Int) => ((Lit.int .i64 x.1).wf = true) ∧ ((Lit.int .i64 x.2.1).wf = true) ∧ (True) ∧ ((∀ y ∈ x.2.2.2, (Lit.int .i64 y).wf = true) ∧ (x.2.2.2).length * 8 ≤ 140737488351232)) wu (by kernel_rfl) (by kernel_rfl) (by kernel_rfl) ?_
  refine oK (G' := fun x : Int × Bool × (List Int) => ((Lit.int .i64 x.1).wf = true) ∧ (True) ∧ ((∀ y ∈ x.2.2, (Lit.int .i64 y).wf = true) ∧ (x.2.2).length * 8 ≤ 140737488351232)) wu (by kernel_rfl) (by kernel_rfl) (by kernel_rfl) ?_
  refine oK (G' := fun x : Bool × (List Int) => (True) ∧ ((∀ y ∈ x.2, (Lit.int .i64 y).wf = true) ∧ (x.2).length * 8 ≤ 140737488351232)) De (by kernel_rfl) (by kernel_rfl) (by kernel_rfl) ?_
  refine oK (G' := fun x : (List Int) => ((∀ y ∈ x, (Lit.int .i64 y).wf = true) ∧ (x).length * 8 ≤ 140737488351232)) Jz (by kernel_rfl) (by kernel_rfl) (by kernel_rfl) ?_
  exact yN IB (by kernel_rfl) (by kernel_rfl) (by kernel_rfl)
theorem IC : iE Tryz.prog 60 (Ty.iso (bM (aJ .i64) (bM (aJ .i64) (bM (aJ .i64) (bM oU (bz 2 (aJ .i64)))))) (fun g : Op => (g.Kind, (g.Key, (g.Arg, (g.Got, g.Vals)))))) (fun x => ((Lit.int .i64 (x).Kind).wf = true) ∧ ((Lit.int .i64 (x).Key).wf = true) ∧ ((Lit.int .i64 (x).Arg).wf = true) ∧ (True) ∧ ((∀ y ∈ (x).Vals, (Lit.int .i64 y).wf = true) ∧ ((x).Vals).length * 8 ≤ 140737488351232)) := vv Ga _ (fun x => (⟨x.1, x.2.1, x.2.2.1, x.2.2.2.1, x.2.2.2.2⟩ : Op)) (fun _ => rfl)
theorem IE : iE Tryz.prog 55 (bz 60 (Ty.iso (bM (aJ .i64) (bM (aJ .i64) (bM (aJ .i64) (bM oU (bz 2 (aJ .i64)))))) (fun g : Op => (g.Kind, (g.Key, (g.Arg, (g.Got, g.Vals))))))) (fun x => (∀ y2 ∈ x, ((Lit.int .i64 (y2).Kind).wf = true) ∧ ((Lit.int .i64 (y2).Key).wf = true) ∧ ((Lit.int .i64 (y2).Arg).wf = true) ∧ (True) ∧ ((∀ y ∈ (y2).Vals, (Lit.int .i64 y).wf = true) ∧ ((y2).Vals).length * 8 ≤ 140737488351232)) ∧ (x).length * 56 ≤ 140737488351232) := qB Tryz.underlying55 IC (by kernel_rfl) (by decide) (by kernel_rfl)
theorem Gb : iE Tryz.prog 57 (bM (aJ .i64) (bM (aJ .i64) (bM (aJ .i64) (bM (aJ .i64) (bz 60 (Ty.iso (bM (aJ .i64) (bM (aJ .i64) (bM (aJ .i64) (bM oU (bz 2 (aJ .i64)))))) (fun g : Op => (g.Kind, (g.Key, (g.Arg, (g.Got, g.Vals))))))))))) (fun x => ((Lit.int .i64 x.1).wf = true) ∧ ((Lit.int .i64 x.2.1).wf = true) ∧ ((Lit.int .i64 x.2.2.1).wf = true) ∧ ((Lit.int .i64 x.2.2.2.1).wf = true) ∧ ((∀ y2 ∈ x.2.2.2.2, ((Lit.int .i64 (y2).Kind).wf = true) ∧ ((Lit.int .i64 (y2).Key).wf = true) ∧ ((Lit.int .i64 (y2).Arg).wf = true) ∧ (True) ∧ ((∀ y ∈ (y2).Vals, (Lit.int .i64 y).wf = true) ∧ ((y2).Vals).length * 8 ≤ 140737488351232)) ∧ (x.2.2.2.2).length * 56 ≤ 140737488351232)) := by
  refine qa Tryz.underlying57 ?_ (by kernel_rfl)
  show qX _ [_, _, _, _, _] _ _ _
  refine oK (G' := fun x : Int × Int × Int × (List Op) => ((Lit.int .i64 x.1).wf = true) ∧ ((Lit.int .i64 x.2.1).wf = true) ∧ ((Lit.int .i64 x.2.2.1).wf = true) ∧ ((∀ y2 ∈ x.2.2.2, ((Lit.int .i64 (y2).Kind).wf = true) ∧ ((Lit.int .i64 (y2).Key).wf = true) ∧ ((Lit.int .i64 (y2).Arg).wf = true) ∧ (True) ∧ ((∀ y ∈ (y2).Vals, (Lit.int .i64 y).wf = true) ∧ ((y2).Vals).length * 8 ≤ 140737488351232)) ∧ (x.2.2.2).length * 56 ≤ 140737488351232)) De (by kernel_rfl) (by kernel_rfl) (by kernel_rfl) ?_
  refine oK (G' := fun x : Int × Int × (List Op) => ((Lit.int .i64 x.1).wf = true) ∧ ((Lit.int .i64 x.2.1).wf = true) ∧ ((∀ y2 ∈ x.2.2, ((Lit.int .i64 (y2).Kind).wf = true) ∧ ((Lit.int .i64 (y2).Key).wf = true) ∧ ((Lit.int .i64 (y2).Arg).wf = true) ∧ (True) ∧ ((∀ y ∈ (y2).Vals, (Lit.int .i64 y).wf = true) ∧ ((y2).Vals).length * 8 ≤ 140737488351232)) ∧ (x.2.2).length * 56 ≤ 140737488351232)) wu (by kernel_rfl) (by kernel_rfl) (by kernel_rfl) ?_
  refine oK (G' := fun x : Int × (List Op) => ((Lit.int .i64 x.1).wf = true) ∧ ((∀ y2 ∈ x.2, ((Lit.int .i64 (y2).Kind).wf = true) ∧ ((Lit.int .i64 (y2).Key).wf = true) ∧ ((Lit.int .i64 (y2).Arg).wf = true) ∧ (True) ∧ ((∀ y ∈ (y2).Vals, (Lit.int .i64 y).wf = true) ∧ ((y2).Vals).length * 8 ≤ 140737488351232)) ∧ (x.2).length * 56 ≤ 140737488351232)) wu (by kernel_rfl) (by kernel_rfl) (by kernel_rfl) ?_
  refine oK (G' := fun x : (List Op) => ((∀ y2 ∈ x, ((Lit.int .i64 (y2).Kind).wf = true) ∧ ((Lit.int .i64 (y2).Key).wf = true) ∧ ((Lit.int .i64 (y2).Arg).wf = true) ∧ (True) ∧ ((∀ y ∈ (y2).Vals, (Lit.int .i64 y).wf = true) ∧ ((y2).Vals).length * 8 ≤ 140737488351232)) ∧ (x).length * 56 ≤ 140737488351232)) wu (by kernel_rfl) (by kernel_rfl) (by kernel_rfl) ?_
  exact yN IE (by kernel_rfl) (by kernel_rfl) (by kernel_rfl)
theorem IG : iE Tryz.prog 57 (Ty.iso (bM (aJ .i64) (bM (aJ .i64) (bM (aJ .i64) (bM (aJ .i64) (bz 60 (Ty.iso (bM (aJ .i64) (bM (aJ .i64) (bM (aJ .i64) (bM oU (bz 2 (aJ .i64)))))) (fun g : Op => (g.Kind, (g.Key, (g.Arg, (g.Got, g.Vals))))))))))) (fun g : Txn => (g.Proc, (g.Status, (g.From, (g.To, g.Ops)))))) (fun x => ((Lit.int .i64 (x).Proc).wf = true) ∧ ((Lit.int .i64 (x).Status).wf = true) ∧ ((Lit.int .i64 (x).From).wf = true) ∧ ((Lit.int .i64 (x).To).wf = true) ∧ ((∀ y2 ∈ (x).Ops, ((Lit.int .i64 (y2).Kind).wf = true) ∧ ((Lit.int .i64 (y2).Key).wf = true) ∧ ((Lit.int .i64 (y2).Arg).wf = true) ∧ (True) ∧ ((∀ y ∈ (y2).Vals, (Lit.int .i64 y).wf = true) ∧ ((y2).Vals).length * 8 ≤ 140737488351232)) ∧ ((x).Ops).length * 56 ≤ 140737488351232)) := vv Gb _ (fun x => (⟨x.1, x.2.1, x.2.2.1, x.2.2.2.1, x.2.2.2.2⟩ : Txn)) (fun _ => rfl)
theorem II : iE Tryz.prog 23 (bz 57 (Ty.iso (bM (aJ .i64) (bM (aJ .i64) (bM (aJ .i64) (bM (aJ .i64) (bz 60 (Ty.iso (bM (aJ .i64) (bM (aJ .i64) (bM (aJ .i64) (bM oU (bz 2 (aJ .i64)))))) (fun g : Op => (g.Kind, (g.Key, (g.Arg, (g.Got, g.Vals))))))))))) (fun g : Txn => (g.Proc, (g.Status, (g.From, (g.To, g.Ops))))))) (fun x => (∀ y3 ∈ x, ((Lit.int .i64 (y3).Proc).wf = true) ∧ ((Lit.int .i64 (y3).Status).wf = true) ∧ ((Lit.int .i64 (y3).From).wf = true) ∧ ((Lit.int .i64 (y3).To).wf = true) ∧ ((∀ y2 ∈ (y3).Ops, ((Lit.int .i64 (y2).Kind).wf = true) ∧ ((Lit.int .i64 (y2).Key).wf = true) ∧ ((Lit.int .i64 (y2).Arg).wf = true) ∧ (True) ∧ ((∀ y ∈ (y2).Vals, (Lit.int .i64 y).wf = true) ∧ ((y2).Vals).length * 8 ≤ 140737488351232)) ∧ ((y3).Ops).length * 56 ≤ 140737488351232)) ∧ (x).length * 56 ≤ 140737488351232) := qB Tryz.underlying23 IG (by kernel_rfl) (by decide) (by kernel_rfl)
theorem Gc : iE Tryz.prog 25 (bM (bz 9 fq) (bz 57 (Ty.iso (bM (aJ .i64) (bM (aJ .i64) (bM (aJ .i64) (bM (aJ .i64) (bz 60 (Ty.iso (bM (aJ .i64) (bM (aJ .i64) (bM (aJ .i64) (bM oU (bz 2 (aJ .i64)))))) (fun g : Op => (g.Kind, (g.Key, (g.Arg, (g.Got, g.Vals))))))))))) (fun g : Txn => (g.Proc, (g.Status, (g.From, (g.To, g.Ops)))))))) (fun x => ((∀ y ∈ x.1, (y).size ≤ reachBytes) ∧ (x.1).length * 16 ≤ 140737488351232) ∧ ((∀ y3 ∈ x.2, ((Lit.int .i64 (y3).Proc).wf = true) ∧ ((Lit.int .i64 (y3).Status).wf = true) ∧ ((Lit.int .i64 (y3).From).wf = true) ∧ ((Lit.int .i64 (y3).To).wf = true) ∧ ((∀ y2 ∈ (y3).Ops, ((Lit.int .i64 (y2).Kind).wf = true) ∧ ((Lit.int .i64 (y2).Key).wf = true) ∧ ((Lit.int .i64 (y2).Arg).wf = true) ∧ (True) ∧ ((∀ y ∈ (y2).Vals, (Lit.int .i64 y).wf = true) ∧ ((y2).Vals).length * 8 ≤ 140737488351232)) ∧ ((y3).Ops).length * 56 ≤ 140737488351232)) ∧ (x.2).length * 56 ≤ 140737488351232)) := by
  refine qa Tryz.underlying25 ?_ (by kernel_rfl)
  show qX _ [_, _] _ _ _
  refine oK (G' := fun x : (List Txn) => ((∀ y3 ∈ x, ((Lit.int .i64 (y3).Proc).wf = true) ∧ ((Lit.int .i64 (y3).Status).wf = true) ∧ ((Lit.int .i64 (y3).From).wf = true) ∧ ((Lit.int .i64 (y3).To).wf = true) ∧ ((∀ y2 ∈ (y3).Ops, ((Lit.int .i64 (y2).Kind).wf = true) ∧ ((Lit.int .i64 (y2).Key).wf = true) ∧ ((Lit.int .i64 (y2).Arg).wf = true) ∧ (True) ∧ ((∀ y ∈ (y2).Vals, (Lit.int .i64 y).wf = true) ∧ ((y2).Vals).length * 8 ≤ 140737488351232)) ∧ ((y3).Ops).length * 56 ≤ 140737488351232)) ∧ (x).length * 56 ≤ 140737488351232)) IA (by kernel_rfl) (by kernel_rfl) (by kernel_rfl) ?_
  exact yN II (by kernel_rfl) (by kernel_rfl) (by kernel_rfl)
theorem IJ : iE Tryz.prog 25 (Ty.iso (bM (bz 9 fq) (bz 57 (Ty.iso (bM (aJ .i64) (bM (aJ .i64) (bM (aJ .i64) (bM (aJ .i64) (bz 60 (Ty.iso (bM (aJ .i64) (bM (aJ .i64) (bM (aJ .i64) (bM oU (bz 2 (aJ .i64)))))) (fun g : Op => (g.Kind, (g.Key, (g.Arg, (g.Got, g.Vals))))))))))) (fun g : Txn => (g.Proc, (g.Status, (g.From, (g.To, g.Ops)))))))) (fun g : History => (g.Keys, g.Txns))) (fun x => ((∀ y ∈ (x).Keys, (y).size ≤ reachBytes) ∧ ((x).Keys).length * 16 ≤ 140737488351232) ∧ ((∀ y3 ∈ (x).Txns, ((Lit.int .i64 (y3).Proc).wf = true) ∧ ((Lit.int .i64 (y3).Status).wf = true) ∧ ((Lit.int .i64 (y3).From).wf = true) ∧ ((Lit.int .i64 (y3).To).wf = true) ∧ ((∀ y2 ∈ (y3).Ops, ((Lit.int .i64 (y2).Kind).wf = true) ∧ ((Lit.int .i64 (y2).Key).wf = true) ∧ ((Lit.int .i64 (y2).Arg).wf = true) ∧ (True) ∧ ((∀ y ∈ (y2).Vals, (Lit.int .i64 y).wf = true) ∧ ((y2).Vals).length * 8 ≤ 140737488351232)) ∧ ((y3).Ops).length * 56 ≤ 140737488351232)) ∧ ((x).Txns).length * 56 ≤ 140737488351232)) := vv Gc _ (fun x => (⟨x.1, x.2⟩ : History)) (fun _ => rfl)
theorem Eg : iE Tryz.prog 26 (bz 3 (aJ .i64)) (fun x => (∀ y ∈ x, (Lit.int .i64 y).wf = true) ∧ (x).length * 8 ≤ 140737488351232) := qB Tryz.underlying26 wu (by kernel_rfl) (by decide) (by kernel_rfl)
theorem Gd : iE Tryz.prog 28 (bM (bz 3 (aJ .i64)) (bz 3 (aJ .i64))) (fun x => ((∀ y ∈ x.1, (Lit.int .i64 y).wf = true) ∧ (x.1).length * 8 ≤ 140737488351232) ∧ ((∀ y ∈ x.2, (Lit.int .i64 y).wf = true) ∧ (x.2).length * 8 ≤ 140737488351232)) := by
  refine qa Tryz.underlying28 ?_ (by kernel_rfl)
  show qX _ [_, _] _ _ _
  refine oK (G' := fun x : (List Int) => ((∀ y ∈ x, (Lit.int .i64 y).wf = true) ∧ (x).length * 8 ≤ 140737488351232)) Eg (by kernel_rfl) (by kernel_rfl) (by kernel_rfl) ?_
  exact yN Eg (by kernel_rfl) (by kernel_rfl) (by kernel_rfl)
theorem IK : iE Tryz.prog 28 (Ty.iso (bM (bz 3 (aJ .i64)) (bz 3 (aJ .i64))) (fun g : Exec => (g.Order, g.Picks))) (fun x => ((∀ y ∈ (x).Order, (Lit.int .i64 y).wf = true) ∧ ((x).Order).length * 8 ≤ 140737488351232) ∧ ((∀ y ∈ (x).Picks, (Lit.int .i64 y).wf = true) ∧ ((x).Picks).length * 8 ≤ 140737488351232)) := vv Gd _ (fun x => (⟨x.1, x.2⟩ : Exec)) (fun _ => rfl)
theorem readable : ∀ t ∈ Tryz.f4.params.toList, Tryz.prog.readableRec t = true ∧ t < Tryz.prog.types.size := by
  rw [Tryz.params4]
  intro t ht
  have ht : t ∈ [25, 28, 3] := ht
  simp only [List.mem_cons, List.not_mem_nil, or_false] at ht
  rcases ht with rfl | rfl | rfl <;> exact ⟨by kernel_rfl, of_decide_eq_true (by kernel_rfl)⟩
theorem contract (H : Type) (enc : TypeId × Value → H) (W : World) (base : Nat) (args : Array Value) (ds gs : List (DataW H)) (before : List MemPlace)
    (hval : ∀ (j : Nat) t v, Tryz.f4.params[j]? = some t → args[j]? = some v → Value.okWide Tryz.prog W .any base t v)
    (hW : DataW.Whole enc Tryz.prog Tryz.f4.params.toList Rows.axiomKeepsSpec.vars false W args.toList ds gs before)
    (hZ : (DataW.weightsEach Tryz.prog (Tryz.f4.params.toList ++ (OpenSpec.ofChange Rows.axiomKeepsSpec).bare.plain.varTypes Tryz.prog) (ds ++ gs)).all (· ≤ reachBytes) = true) (hL : laidMetH Tryz.prog Rows.axiomKeepsRow.laid W) :
    Calls Tryz.prog 4 args W fun e W' => ∃ v, e = .returned v ∧ Rows.axiomKeepsSpec.post enc Tryz.prog Tryz.f4 false true false false W args v W' := by
  have hW' := hW
  obtain ⟨p, q, hA0, hV, hpq, hfz, hnd⟩ := hW
  have hA : DataW.TrodAll enc Tryz.prog W 0 (fun _ => true) true Tryz.f4.params.toList args.toList ds p := hA0
  rw [Tryz.params4] at hA hval hZ
  obtain ⟨v0, vs0, d0, ds0, p0, q0, hargs0, hds0, hpp0, h0, r0⟩ := trodAll_cons hA
  obtain ⟨v1, vs1, d1, ds1, p1, q1, hargs1, hds1, hpp1, h1, r1⟩ := trodAll_cons r0
  obtain ⟨v2, vs2, d2, ds2, p2, q2, hargs2, hds2, hpp2, h2, r2⟩ := trodAll_cons r1
  obtain ⟨e0, e1, e2⟩ := trodAll_nil r2
  obtain ⟨rfl, rfl⟩ := trodVars_none hV
  subst hds0 hds1 hds2 e0 e1
  have hargs : args = #[v0, v1, v2] := by
    cases args with
    | mk l =>
      have hl : l = [v0, v1, v2] := by rw [show l = _ from hargs0, hargs1, hargs2]
      rw [hl]
  subst hargs
  have hZ' := fun x hx => of_decide_eq_true (List.all_eq_true.1 hZ x hx)
  clear hZ
  have w0 : ∀ n ∈ DataW.weights Tryz.prog 25 d0, n ≤ reachBytes := fun n hm => hZ' n (List.mem_append_left _ hm)
  have w1 : ∀ n ∈ DataW.weights Tryz.prog 28 d1, n ≤ reachBytes := fun n hm => hZ' n (List.mem_append_right _ (List.mem_append_left _ hm))
  have w2 : ∀ n ∈ DataW.weights Tryz.prog 3 d2, n ≤ reachBytes := fun n hm => hZ' n (List.mem_append_right _ (List.mem_append_right _ (List.mem_append_left _ hm)))
  obtain ⟨x0, ar0, rfl, k0, g0⟩ := zy IJ Tryz.underlying25 (hval 0 25 v0 rfl rfl) h0 w0
  obtain ⟨x1, ar1, rfl, k1, g1⟩ := zy IK Tryz.underlying28 (hval 1 28 v1 rfl rfl) h1 w1
  obtain ⟨x2, k2, g2⟩ := IQ wu (by rw [Tryz.underlying3]; intro _ h; cases h) (by rw [Tryz.underlying3]; intro _ _ h; cases h) (hval 2 3 v2 rfl rfl) h2 w2
  obtain ⟨l0⟩ := ar0
  have k0 : Ty.rd _ _ _ l0 := k0
  obtain ⟨_, _, rfl, ⟨As1, cs1, rfl, ls1, rs1⟩, ⟨As2, cs2, rfl, ls2, rs2⟩⟩ := k0
  obtain ⟨l1⟩ := ar1
  have k1 : Ty.rd _ _ _ l1 := k1
  obtain ⟨_, _, rfl, ⟨As3, cs3, rfl, ls3, rs3⟩, ⟨As4, cs4, rfl, ls4, rs4⟩⟩ := k1
  have e2 : v2 = _ := (List.cons.inj k2).1
  subst e2
  have H := zu x0 x1 x2 g0 g1 g2
  refine (pG x0 As1 cs1 As2 cs2 x1 As3 cs3 As4 cs4 x2 (aV W) W (Inv.start W)  rs1 ls1 rs2 ls2 rs3 ls3 rs4 ls4 true H).mono fun e W'' hh => ?_
  obtain ⟨rfl, hI⟩ := hh
  exact ⟨_, rfl, Gg (by kernel_rfl) hW' rfl rfl Tryz.underlying4 readable rfl rfl rfl hI.below⟩
noncomputable def xR (os : Os) : World := World.holding Tryz.prog os ⟨#[], #[], []⟩
theorem Gf (os : Os) : laidMet Tryz.prog Rows.axiomKeepsRow.laid ((xR os).forCall (fun _ _ => 0) ⟨#[], #[(.agg #[.slice none 0 0, .slice none 0 0] : Value), (.agg #[.slice none 0 0, .slice none 0 0] : Value), (.int .i64 0 : Value)], []⟩).memory := laidMet_of_run' 8 (by kernel_rfl) (by kernel_rfl)
theorem reads (os : Os) {H : Type} (enc : TypeId × Value → H) : ∃ places, DataW.whole enc Tryz.prog ((xR os).forCall (fun _ _ => 0) ⟨#[], #[(.agg #[.slice none 0 0, .slice none 0 0] : Value), (.agg #[.slice none 0 0, .slice none 0 0] : Value), (.int .i64 0 : Value)], []⟩).memory Tryz.f4.params.toList Rows.axiomKeepsSpec.vars false (#[(.agg #[.slice none 0 0, .slice none 0 0] : Value), (.agg #[.slice none 0 0, .slice none 0 0] : Value), (.int .i64 0 : Value)]).toList 8 = some ([.agg [.nil, .nil], .agg [.nil, .nil], .lit (.int .i64 0)], [], places) :=
  ⟨[], by kernel_rfl⟩
theorem lifted (os : Os) (started : os.Started) (H : Type) (enc : TypeId × Value → H) (F : Stop.Interp) :
    ReturnsInHanded {} Tryz.checked os 4 .any ((OpenSpec.ofChange Rows.axiomKeepsSpec).preRow enc Tryz.prog Tryz.f4 Rows.axiomKeepsRow.domain false Rows.axiomKeepsRow.laid) (((OpenSpec.ofChange Rows.axiomKeepsSpec).at F).post enc Tryz.prog Tryz.f4 false true false false) := by
  obtain ⟨places, hx⟩ := reads os enc
  refine returnsInHanded_of_row (C := Tryz.checked) (s := OpenSpec.ofChange Rows.axiomKeepsSpec) own started (by kernel_rfl) Tryz.func4
    (witness_row_at (enc := enc) (C := Tryz.checked) false (xR os) #[(.agg #[.slice none 0 0, .slice none 0 0] : Value), (.agg #[.slice none 0 0, .slice none 0 0] : Value), (.int .i64 0 : Value)] rfl (by kernel_rfl) (by kernel_rfl) (by kernel_rfl)
      (OpenSpec.preRow_of_cond 8 hx (by kernel_rfl) (fun k hk => by cases hk) (by kernel_rfl) (Gf os))) ?_
  intro W base args ds gs before hval hW _ hcond hZ hL _ _
  exact contract H enc W base args ds gs before hval hW hZ hL
theorem said : Rows.AxiomKeepsSaid :=
  OpenClaim.holds_of_cond 4 Tryz.f4 rfl rfl rfl rfl rfl rfl rfl ⟨rfl, rfl, rfl, rfl, rfl⟩ rfl rfl rfl rfl rfl (by kernel_rfl) Tryz.func4 (by kernel_rfl)
    (of_decide_eq_true (by kernel_rfl)) (by unfold Func.isWrapper; first | (rw [if_pos (by decide +kernel)]; kernel_rfl) | (rw [if_neg (by decide +kernel)]; exact ⟨rfl, rfl⟩))
    (fun os started H enc _ F => by rw [OpenClaim.pre_eq_preRow]; exact lifted os started H enc F)
end Go.Proofs.YtmfgddafcgflaaaGreatT
namespace Go.Proofs.YtmfgddafcgflaaaGreat
theorem axiomKeeps_holds : Rows.AxiomKeepsSaid := YtmfgddafcgflaaaGreatT.said
end Go.Proofs.YtmfgddafcgflaaaGreat
#print axioms Go.Proofs.YtmfgddafcgflaaaGreat.axiomKeeps_holds
