/- The law DepsSure: the program's row. No condition is added. -/
import Derived.Test.YtfpeabnehpclnaaGreatRows
import Derived.WalkKit
import Derived.ProofKit
import Derived.OpenShut
import Derived.Deep.DeepHandedRow
import Derived.Lib.LaidTab
import Derived.SevenTiedAt
import Derived.Test.YtfpeabnehpclnaaGreatY
import Derived.Test.YtfpeabnehpclnaaGreatTW1
import Derived.Test.YtfpeabnehpclnaaGreatTW2
import Derived.Test.YtfpeabnehpclnaaGreatTW3
import Derived.Test.YtfpeabnehpclnaaGreatTW4
import Derived.Test.YtfpeabnehpclnaaGreatTW5
import Derived.Test.YtfpeabnehpclnaaGreatTPDA
namespace Go.Proofs.YtfpeabnehpclnaaGreatT
open Go Go.Proofs Go.Proofs.YtfpeabnehpclnaaGreatE Go.ChangeShapes Go.WideShapes Go.ChangeAt Go.RowKit Go.Proofs.YtfpeabnehpclnaaGreat
set_option linter.unusedVariables false
set_option linter.unusedSimpArgs false
set_option maxHeartbeats 0
set_option maxRecDepth 100000
theorem own : ownKnob Tryz.prog.godebug = none := by kernel_rfl
theorem NA : jm Tryz.prog 9 fT (fun x => (x).size ≤ reachBytes) := JH Tryz.underlying9
theorem MJ : jm Tryz.prog 22 (bI 9 fT) (fun x => (∀ y ∈ x, (y).size ≤ reachBytes) ∧ (x).length * 16 ≤ 140737488351232) := uK Tryz.underlying22 NA (by kernel_rfl) (by decide) (by kernel_rfl)
theorem Ib : jm Tryz.prog 2 (ay .i64) (fun x => (Lit.int .i64 x).wf = true) := EK Tryz.underlying2
theorem wE : jm Tryz.prog 3 (ay .i64) (fun x => (Lit.int .i64 x).wf = true) := EK Tryz.underlying3
theorem NB : jm Tryz.prog 4 oV (fun x => True) := Io Tryz.underlying4
theorem MK : jm Tryz.prog 66 (bI 2 (ay .i64)) (fun x => (∀ y ∈ x, (Lit.int .i64 y).wf = true) ∧ (x).length * 8 ≤ 140737488351232) := uK Tryz.underlying66 Ib (by kernel_rfl) (by decide) (by kernel_rfl)
theorem Lg : jm Tryz.prog 70 (bO (ay .i64) (bO (ay .i64) (bO (ay .i64) (bO oV (bI 2 (ay .i64)))))) (fun x => ((Lit.int .i64 x.1).wf = true) ∧ ((Lit.int .i64 x.2.1).wf = true) ∧ ((Lit.int .i64 x.2.2.1).wf = true) ∧ (True) ∧ ((∀ y ∈ x.2.2.2.2, (Lit.int .i64 y).wf = true) ∧ (x.2.2.2.2).length * 8 ≤ 140737488351232)) := by
  refine qQ Tryz.underlying70 ?_ (by kernel_rfl)
  show tV _ [_, _, _, _, _] _ _ _
  refine oC (G' := fun x : Int × Int × Bool × (List Int) => ((Lit.int .i64 x.1).wf = true) ∧ ((Lit.int .i64 x.2.1).wf = true) ∧ (True) ∧ ((∀ y ∈ x.2.2.2, (Lit.int .i64 y).wf = true) ∧ (x.2.2.2).length * 8 ≤ 140737488351232)) wE (by kernel_rfl) (by kernel_rfl) (by kernel_rfl) ?_
  refine oC (G' := fun x : Int × Bool × (List Int) => ((Lit.int .i64 x.1).wf = true) ∧ (True) ∧ ((∀ y ∈ x.2.2, (Lit.int .i64 y).wf = true) ∧ (x.2.2).length * 8 ≤ 140737488351232)) wE (by kernel_rfl) (by kernel_rfl) (by kernel_rfl) ?_
  refine oC (G' := fun x : Bool × (List Int) => (True) ∧ ((∀ y ∈ x.2, (Lit.int .i64 y).wf = true) ∧ (x.2).length * 8 ≤ 140737488351232)) Ib (by kernel_rfl) (by kernel_rfl) (by kernel_rfl) ?_
  refine oC (G' := fun x : (List Int) => ((∀ y ∈ x, (Lit.int .i64 y).wf = true) ∧ (x).length * 8 ≤ 140737488351232)) NB (by kernel_rfl) (by kernel_rfl) (by kernel_rfl) ?_
  exact Bt MK (by kernel_rfl) (by kernel_rfl) (by kernel_rfl)
theorem ML : jm Tryz.prog 70 (Ty.iso (bO (ay .i64) (bO (ay .i64) (bO (ay .i64) (bO oV (bI 2 (ay .i64)))))) (fun g : Op => (g.Kind, (g.Key, (g.Arg, (g.Got, g.Vals)))))) (fun x => ((Lit.int .i64 (x).Kind).wf = true) ∧ ((Lit.int .i64 (x).Key).wf = true) ∧ ((Lit.int .i64 (x).Arg).wf = true) ∧ (True) ∧ ((∀ y ∈ (x).Vals, (Lit.int .i64 y).wf = true) ∧ ((x).Vals).length * 8 ≤ 140737488351232)) := zq Lg _ (fun x => (⟨x.1, x.2.1, x.2.2.1, x.2.2.2.1, x.2.2.2.2⟩ : Op)) (fun _ => rfl)
theorem MM : jm Tryz.prog 63 (bI 70 (Ty.iso (bO (ay .i64) (bO (ay .i64) (bO (ay .i64) (bO oV (bI 2 (ay .i64)))))) (fun g : Op => (g.Kind, (g.Key, (g.Arg, (g.Got, g.Vals))))))) (fun x => (∀ y2 ∈ x, ((Lit.int .i64 (y2).Kind).wf = true) ∧ ((Lit.int .i64 (y2).Key).wf = true) ∧ ((Lit.int .i64 (y2).Arg).wf = true) ∧ (True) ∧ ((∀ y ∈ (y2).Vals, (Lit.int .i64 y).wf = true) ∧ ((y2).Vals).length * 8 ≤ 140737488351232)) ∧ (x).length * 56 ≤ 140737488351232) := uK Tryz.underlying63 ML (by kernel_rfl) (by decide) (by kernel_rfl)
theorem Lh : jm Tryz.prog 65 (bO (ay .i64) (bO (ay .i64) (bO (ay .i64) (bO (ay .i64) (bI 70 (Ty.iso (bO (ay .i64) (bO (ay .i64) (bO (ay .i64) (bO oV (bI 2 (ay .i64)))))) (fun g : Op => (g.Kind, (g.Key, (g.Arg, (g.Got, g.Vals))))))))))) (fun x => ((Lit.int .i64 x.1).wf = true) ∧ ((Lit.int .i64 x.2.1).wf = true) ∧ ((Lit.int .i64 x.2.2.1).wf = true) ∧ ((Lit.int .i64 x.2.2.2.1).wf = true) ∧ ((∀ y2 ∈ x.2.2.2.2, ((Lit.int .i64 (y2).Kind).wf = true) ∧ ((Lit.int .i64 (y2).Key).wf = true) ∧ ((Lit.int .i64 (y2).Arg).wf = true) ∧ (True) ∧ ((∀ y ∈ (y2).Vals, (Lit.int .i64 y).wf = true) ∧ ((y2).Vals).length * 8 ≤ 140737488351232)) ∧ (x.2.2.2.2).length * 56 ≤ 140737488351232)) := by
  refine qQ Tryz.underlying65 ?_ (by kernel_rfl)
  show tV _ [_, _, _, _, _] _ _ _
  refine oC (G' := fun x : Int × Int × Int × (List Op) => ((Lit.int .i64 x.1).wf = true) ∧ ((Lit.int .i64 x.2.1).wf = true) ∧ ((Lit.int .i64 x.2.2.1).wf = true) ∧ ((∀ y2 ∈ x.2.2.2, ((Lit.int .i64 (y2).Kind).wf = true) ∧ ((Lit.int .i64 (y2).Key).wf = true) ∧ ((Lit.int .i64 (y2).Arg).wf = true) ∧ (True) ∧ ((∀ y ∈ (y2).Vals, (Lit.int .i64 y).wf = true) ∧ ((y2).Vals).length * 8 ≤ 140737488351232)) ∧ (x.2.2.2).length * 56 ≤ 140737488351232)) Ib (by kernel_rfl) (by kernel_rfl) (by kernel_rfl) ?_
  refine oC (G' := fun x : Int × Int × (List Op) => ((Lit.int .i64 x.1).wf = true) ∧ ((Lit.int .i64 x.2.1).wf = true) ∧ ((∀ y2 ∈ x.2.2, ((Lit.int .i64 (y2).Kind).wf = true) ∧ ((Lit.int .i64 (y2).Key).wf = true) ∧ ((Lit.int .i64 (y2).Arg).wf = true) ∧ (True) ∧ ((∀ y ∈ (y2).Vals, (Lit.int .i64 y).wf = true) ∧ ((y2).Vals).length * 8 ≤ 140737488351232)) ∧ (x.2.2).length * 56 ≤ 140737488351232)) wE (by kernel_rfl) (by kernel_rfl) (by kernel_rfl) ?_
  refine oC (G' := fun x : Int × (List Op) => ((Lit.int .i64 x.1).wf = true) ∧ ((∀ y2 ∈ x.2, ((Lit.int .i64 (y2).Kind).wf = true) ∧ ((Lit.int .i64 (y2).Key).wf = true) ∧ ((Lit.int .i64 (y2).Arg).wf = true) ∧ (True) ∧ ((∀ y ∈ (y2).Vals, (Lit.int .i64 y).wf = true) ∧ ((y2).Vals).length * 8 ≤ 140737488351232)) ∧ (x.2).length * 56 ≤ 140737488351232)) wE (by kernel_rfl) (by kernel_rfl) (by kernel_rfl) ?_
  refine oC (G' := fun x : (List Op) => ((∀ y2 ∈ x, ((Lit.int .i64 (y2).Kind).wf = true) ∧ ((Lit.int .i64 (y2).Key).wf = true) ∧ ((Lit.int .i64 (y2).Arg).wf = true) ∧ (True) ∧ ((∀ y ∈ (y2).Vals, (Lit.int .i64 y).wf = true) ∧ ((y2).Vals).length * 8 ≤ 140737488351232)) ∧ (x).length * 56 ≤ 140737488351232)) wE (by kernel_rfl) (by kernel_rfl) (by kernel_rfl) ?_
  exact Bt MM (by kernel_rfl) (by kernel_rfl) (by kernel_rfl)
theorem MN : jm Tryz.prog 65 (Ty.iso (bO (ay .i64) (bO (ay .i64) (bO (ay .i64) (bO (ay .i64) (bI 70 (Ty.iso (bO (ay .i64) (bO (ay .i64) (bO (ay .i64) (bO oV (bI 2 (ay .i64)))))) (fun g : Op => (g.Kind, (g.Key, (g.Arg, (g.Got, g.Vals))))))))))) (fun g : Txn => (g.Proc, (g.Status, (g.From, (g.To, g.Ops)))))) (fun x => ((Lit.int .i64 (x).Proc).wf = true) ∧ ((Lit.int .i64 (x).Status).wf = true) ∧ ((Lit.int .i64 (x).From).wf = true) ∧ ((Lit.int .i64 (x).To).wf = true) ∧ ((∀ y2 ∈ (x).Ops, ((Lit.int .i64 (y2).Kind).wf = true) ∧ ((Lit.int .i64 (y2).Key).wf = true) ∧ ((Lit.int .i64 (y2).Arg).wf = true) ∧ (True) ∧ ((∀ y ∈ (y2).Vals, (Lit.int .i64 y).wf = true) ∧ ((y2).Vals).length * 8 ≤ 140737488351232)) ∧ ((x).Ops).length * 56 ≤ 140737488351232)) := zq Lh _ (fun x => (⟨x.1, x.2.1, x.2.2.1, x.2.2.2.1, x.2.2.2.2⟩ : Txn)) (fun _ => rfl)
theorem MO : jm Tryz.prog 23 (bI 65 (Ty.iso (bO (ay .i64) (bO (ay .i64) (bO (ay .i64) (bO (ay .i64) (bI 70 (Ty.iso (bO (ay .i64) (bO (ay .i64) (bO (ay .i64) (bO oV (bI 2 (ay .i64)))))) (fun g : Op => (g.Kind, (g.Key, (g.Arg, (g.Got, g.Vals))))))))))) (fun g : Txn => (g.Proc, (g.Status, (g.From, (g.To, g.Ops))))))) (fun x => (∀ y3 ∈ x, ((Lit.int .i64 (y3).Proc).wf = true) ∧ ((Lit.int .i64 (y3).Status).wf = true) ∧ ((Lit.int .i64 (y3).From).wf = true) ∧ ((Lit.int .i64 (y3).To).wf = true) ∧ ((∀ y2 ∈ (y3).Ops, ((Lit.int .i64 (y2).Kind).wf = true) ∧ ((Lit.int .i64 (y2).Key).wf = true) ∧ ((Lit.int .i64 (y2).Arg).wf = true) ∧ (True) ∧ ((∀ y ∈ (y2).Vals, (Lit.int .i64 y).wf = true) ∧ ((y2).Vals).length * 8 ≤ 140737488351232)) ∧ ((y3).Ops).length * 56 ≤ 140737488351232)) ∧ (x).length * 56 ≤ 140737488351232) := uK Tryz.underlying23 MN (by kernel_rfl) (by decide) (by kernel_rfl)
theorem Li : jm Tryz.prog 25 (bO (bI 9 fT) (bI 65 (Ty.iso (bO (ay .i64) (bO (ay .i64) (bO (ay .i64) (bO (ay .i64) (bI 70 (Ty.iso (bO (ay .i64) (bO (ay .i64) (bO (ay .i64) (bO oV (bI 2 (ay .i64)))))) (fun g : Op => (g.Kind, (g.Key, (g.Arg, (g.Got, g.Vals))))))))))) (fun g : Txn => (g.Proc, (g.Status, (g.From, (g.To, g.Ops)))))))) (fun x => ((∀ y ∈ x.1, (y).size ≤ reachBytes) ∧ (x.1).length * 16 ≤ 140737488351232) ∧ ((∀ y3 ∈ x.2, ((Lit.int .i64 (y3).Proc).wf = true) ∧ ((Lit.int .i64 (y3).Status).wf = true) ∧ ((Lit.int .i64 (y3).From).wf = true) ∧ ((Lit.int .i64 (y3).To).wf = true) ∧ ((∀ y2 ∈ (y3).Ops, ((Lit.int .i64 (y2).Kind).wf = true) ∧ ((Lit.int .i64 (y2).Key).wf = true) ∧ ((Lit.int .i64 (y2).Arg).wf = true) ∧ (True) ∧ ((∀ y ∈ (y2).Vals, (Lit.int .i64 y).wf = true) ∧ ((y2).Vals).length * 8 ≤ 140737488351232)) ∧ ((y3).Ops).length * 56 ≤ 140737488351232)) ∧ (x.2).length * 56 ≤ 140737488351232)) := by
  refine qQ Tryz.underlying25 ?_ (by kernel_rfl)
  show tV _ [_, _] _ _ _
  refine oC (G' := fun x : (List Txn) => ((∀ y3 ∈ x, ((Lit.int .i64 (y3).Proc).wf = true) ∧ ((Lit.int .i64 (y3).Status).wf = true) ∧ ((Lit.int .i64 (y3).From).wf = true) ∧ ((Lit.int .i64 (y3).To).wf = true) ∧ ((∀ y2 ∈ (y3).Ops, ((Lit.int .i64 (y2).Kind).wf = true) ∧ ((Lit.int .i64 (y2).Key).wf = true) ∧ ((Lit.int .i64 (y2).Arg).wf = true) ∧ (True) ∧ ((∀ y ∈ (y2).Vals, (Lit.int .i64 y).wf = true) ∧ ((y2).Vals).length * 8 ≤ 140737488351232)) ∧ ((y3).Ops).length * 56 ≤ 140737488351232)) ∧ (x).length * 56 ≤ 140737488351232)) MJ (by kernel_rfl) (by kernel_rfl) (by kernel_rfl) ?_
  exact Bt MO (by kernel_rfl) (by kernel_rfl) (by kernel_rfl)
theorem MP : jm Tryz.prog 25 (Ty.iso (bO (bI 9 fT) (bI 65 (Ty.iso (bO (ay .i64) (bO (ay .i64) (bO (ay .i64) (bO (ay .i64) (bI 70 (Ty.iso (bO (ay .i64) (bO (ay .i64) (bO (ay .i64) (bO oV (bI 2 (ay .i64)))))) (fun g : Op => (g.Kind, (g.Key, (g.Arg, (g.Got, g.Vals))))))))))) (fun g : Txn => (g.Proc, (g.Status, (g.From, (g.To, g.Ops)))))))) (fun g : History => (g.Keys, g.Txns))) (fun x => ((∀ y ∈ (x).Keys, (y).size ≤ reachBytes) ∧ ((x).Keys).length * 16 ≤ 140737488351232) ∧ ((∀ y3 ∈ (x).Txns, ((Lit.int .i64 (y3).Proc).wf = true) ∧ ((Lit.int .i64 (y3).Status).wf = true) ∧ ((Lit.int .i64 (y3).From).wf = true) ∧ ((Lit.int .i64 (y3).To).wf = true) ∧ ((∀ y2 ∈ (y3).Ops, ((Lit.int .i64 (y2).Kind).wf = true) ∧ ((Lit.int .i64 (y2).Key).wf = true) ∧ ((Lit.int .i64 (y2).Arg).wf = true) ∧ (True) ∧ ((∀ y ∈ (y2).Vals, (Lit.int .i64 y).wf = true) ∧ ((y2).Vals).length * 8 ≤ 140737488351232)) ∧ ((y3).Ops).length * 56 ≤ 140737488351232)) ∧ ((x).Txns).length * 56 ≤ 140737488351232)) := zq Li _ (fun x => (⟨x.1, x.2⟩ : History)) (fun _ => rfl)
theorem Ja : jm Tryz.prog 58 (bI 3 (ay .i64)) (fun x => (∀ y ∈ x, (Lit.int .i64 y).wf = true) ∧ (x).length * 8 ≤ 140737488351232) := uK Tryz.underlying58 wE (by kernel_rfl) (by decide) (by kernel_rfl)
theorem Lj : jm Tryz.prog 60 (bO (bI 3 (ay .i64)) (bI 3 (ay .i64))) (fun x => ((∀ y ∈ x.1, (Lit.int .i64 y).wf = true) ∧ (x.1).length * 8 ≤ 140737488351232) ∧ ((∀ y ∈ x.2, (Lit.int .i64 y).wf = true) ∧ (x.2).length * 8 ≤ 140737488351232)) := by
  refine qQ Tryz.underlying60 ?_ (by kernel_rfl)
  show tV _ [_, _] _ _ _
  refine oC (G' := fun x : (List Int) => ((∀ y ∈ x, (Lit.int .i64 y).wf = true) ∧ (x).length * 8 ≤ 140737488351232)) Ja (by kernel_rfl) (by kernel_rfl) (by kernel_rfl) ?_
  exact Bt Ja (by kernel_rfl) (by kernel_rfl) (by kernel_rfl)
theorem MQ : jm Tryz.prog 60 (Ty.iso (bO (bI 3 (ay .i64)) (bI 3 (ay .i64))) (fun g : Exec => (g.Order, g.Picks))) (fun x => ((∀ y ∈ (x).Order, (Lit.int .i64 y).wf = true) ∧ ((x).Order).length * 8 ≤ 140737488351232) ∧ ((∀ y ∈ (x).Picks, (Lit.int .i64 y).wf = true) ∧ ((x).Picks).length * 8 ≤ 140737488351232)) := zq Lj _ (fun x => (⟨x.1, x.2⟩ : Exec)) (fun _ => rfl)
theorem Ll : jm Tryz.prog 43 (bO (ay .i64) (bO (ay .i64) (bO (ay .i64) (ay .i64)))) (fun x => ((Lit.int .i64 x.1).wf = true) ∧ ((Lit.int .i64 x.2.1).wf = true) ∧ ((Lit.int .i64 x.2.2.1).wf = true) ∧ ((Lit.int .i64 x.2.2.2).wf = true)) := by
  refine qQ Tryz.underlying43 ?_ (by kernel_rfl)
  show tV _ [_, _, _, _] _ _ _
  refine oC (G' := fun x : Int × Int × Int => ((Lit.int .i64 x.1).wf = true) ∧ ((Lit.int .i64 x.2.1).wf = true) ∧ ((Lit.int .i64 x.2.2).wf = true)) wE (by kernel_rfl) (by kernel_rfl) (by kernel_rfl) ?_
  refine oC (G' := fun x : Int × Int => ((Lit.int .i64 x.1).wf = true) ∧ ((Lit.int .i64 x.2).wf = true)) wE (by kernel_rfl) (by kernel_rfl) (by kernel_rfl) ?_
  refine oC (G' := fun x : Int => ((Lit.int .i64 x).wf = true)) wE (by kernel_rfl) (by kernel_rfl) (by kernel_rfl) ?_
  exact Bt wE (by kernel_rfl) (by kernel_rfl) (by kernel_rfl)
theorem MR : jm Tryz.prog 43 yj (fun x => ((Lit.int .i64 (x).From).wf = true) ∧ ((Lit.int .i64 (x).To).wf = true) ∧ ((Lit.int .i64 (x).Kind).wf = true) ∧ ((Lit.int .i64 (x).Key).wf = true)) := Ie Ll (fun x => (⟨x.1, x.2.1, x.2.2.1, x.2.2.2⟩ : Edge)) (fun H a cs h => by
  obtain ⟨_, _, rfl, h0, ⟨_, _, rfl, h1, ⟨_, _, rfl, h2, h3⟩⟩⟩ := h
  cases h0
  cases h1
  cases h2
  cases h3
  rfl) (fun a h => h)
theorem readable : ∀ t ∈ Tryz.f9.params.toList, Tryz.prog.readableRec t = true ∧ t < Tryz.prog.types.size := by
  rw [Tryz.params9]
  intro t ht
  have ht : t ∈ [25, 60, 43] := ht
  simp only [List.mem_cons, List.not_mem_nil, or_false] at ht
  rcases ht with rfl | rfl | rfl <;> exact ⟨by kernel_rfl, of_decide_eq_true (by kernel_rfl)⟩
theorem contract (H : Type) (enc : TypeId × Value → H) (W : World) (base : Nat) (args : Array Value) (ds gs : List (DataW H)) (before : List MemPlace)
    (hval : ∀ (j : Nat) t v, Tryz.f9.params[j]? = some t → args[j]? = some v → Value.okWide Tryz.prog W .any base t v)
    (hW : DataW.Whole enc Tryz.prog Tryz.f9.params.toList Rows.depsSureSpec.vars false W args.toList ds gs before)
    (hZ : (DataW.weightsEach Tryz.prog (Tryz.f9.params.toList ++ (OpenSpec.ofChange Rows.depsSureSpec).bare.plain.varTypes Tryz.prog) (ds ++ gs)).all (· ≤ reachBytes) = true) (hL : laidMetH Tryz.prog Rows.depsSureRow.laid W) :
    Calls Tryz.prog 9 args W fun e W' => ∃ v, e = .returned v ∧ Rows.depsSureSpec.post enc Tryz.prog Tryz.f9 false true false false W args v W' := by
  have hW' := hW
  obtain ⟨p, q, hA0, hV, hpq, hfz, hnd⟩ := hW
  have hA : DataW.TrodAll enc Tryz.prog W 0 (fun _ => true) true Tryz.f9.params.toList args.toList ds p := hA0
  rw [Tryz.params9] at hA hval hZ
  obtain ⟨v0, vs0, d0, ds0, p0, q0, hargs0, hds0, hpp0, h0, r0⟩ := trodAll_cons hA
  obtain ⟨v1, vs1, d1, ds1, p1, q1, hargs1, hds1, hpp1, h1, r1⟩ := trodAll_cons r0
  obtain ⟨v2, vs2, d2, ds2, p2, q2, hargs2, hds2, hpp2, h2, r2⟩ := trodAll_cons r1
  obtain ⟨e0, e1, e2⟩ := trodAll_nil r2
  obtain ⟨rfl, rfl⟩ := trodVars_none hV
  subst hds0 hds1 hds2 e0 e1
  have hargs : args = #[v0, v1, v2] := by
    cases args with
    | mk l =>
      have hl : l = [v0, v1, v2] := by rw [show l = _ from hargs0, hargs1, hargs2]
      rw [hl]
  subst hargs
  have hZ' := fun x hx => of_decide_eq_true (List.all_eq_true.1 hZ x hx)
  clear hZ
  have w0 : ∀ n ∈ DataW.weights Tryz.prog 25 d0, n ≤ reachBytes := fun n hm => hZ' n (List.mem_append_left _ hm)
  have w1 : ∀ n ∈ DataW.weights Tryz.prog 60 d1, n ≤ reachBytes := fun n hm => hZ' n (List.mem_append_right _ (List.mem_append_left _ hm))
  have w2 : ∀ n ∈ DataW.weights Tryz.prog 43 d2, n ≤ reachBytes := fun n hm => hZ' n (List.mem_append_right _ (List.mem_append_right _ (List.mem_append_left _ hm)))
  obtain ⟨x0, ar0, rfl, k0, g0⟩ := Az MP Tryz.underlying25 (hval 0 25 v0 rfl rfl) h0 w0
  obtain ⟨x1, ar1, rfl, k1, g1⟩ := Az MQ Tryz.underlying60 (hval 1 60 v1 rfl rfl) h1 w1
  obtain ⟨x2, ar2, rfl, k2, g2⟩ := Az MR Tryz.underlying43 (hval 2 43 v2 rfl rfl) h2 w2
  obtain ⟨l0⟩ := ar0
  have k0 : Ty.rd _ _ _ l0 := k0
  obtain ⟨_, _, rfl, ⟨As1, cs1, rfl, ls1, rs1⟩, ⟨As2, cs2, rfl, ls2, rs2⟩⟩ := k0
  obtain ⟨l1⟩ := ar1
  have k1 : Ty.rd _ _ _ l1 := k1
  obtain ⟨_, _, rfl, ⟨As3, cs3, rfl, ls3, rs3⟩, ⟨As4, cs4, rfl, ls4, rs4⟩⟩ := k1
  obtain ⟨l2⟩ := ar2
  have fe2 : l2 = Edge.enc x2 := k2
  subst fe2
  have H := Fs x0 x1 x2 g0 g1 g2
  refine (uF x0 As1 cs1 As2 cs2 x1 As3 cs3 As4 cs4 x2 (aT W) W (Inv.start W)  rs1 ls1 rs2 ls2 rs3 ls3 rs4 ls4 true H).mono fun e W'' hh => ?_
  obtain ⟨rfl, hI⟩ := hh
  exact ⟨_, rfl, LA (by kernel_rfl) hW' rfl rfl Tryz.underlying4 readable rfl rfl rfl hI.below⟩
noncomputable def Cg (os : Os) : World := World.holding Tryz.prog os ⟨#[], #[], []⟩
theorem Lm (os : Os) : laidMet Tryz.prog Rows.depsSureRow.laid ((Cg os).forCall (fun _ _ => 0) ⟨#[], #[(.agg #[.slice none 0 0, .slice none 0 0] : Value), (.agg #[.slice none 0 0, .slice none 0 0] : Value), (.agg #[.int .i64 0, .int .i64 0, .int .i64 0, .int .i64 0] : Value)], []⟩).memory := laidMet_of_run' 8 (by kernel_rfl) (by kernel_rfl)
theorem reads (os : Os) {H : Type} (enc : TypeId × Value → H) : ∃ places, DataW.whole enc Tryz.prog ((Cg os).forCall (fun _ _ => 0) ⟨#[], #[(.agg #[.slice none 0 0, .slice none 0 0] : Value), (.agg #[.slice none 0 0, .slice none 0 0] : Value), (.agg #[.int .i64 0, .int .i64 0, .int .i64 0, .int .i64 0] : Value)], []⟩).memory Tryz.f9.params.toList Rows.depsSureSpec.vars false (#[(.agg #[.slice none 0 0, .slice none 0 0] : Value), (.agg #[.slice none 0 0, .slice none 0 0] : Value), (.agg #[.int .i64 0, .int .i64 0, .int .i64 0, .int .i64 0] : Value)]).toList 8 = some ([.agg [.nil, .nil], .agg [.nil, .nil], .agg [.lit (.int .i64 0), .lit (.int .i64 0), .lit (.int .i64 0), .lit (.int .i64 0)]], [], places) :=
  ⟨[], by kernel_rfl⟩
theorem lifted (os : Os) (started : os.Started) (H : Type) (enc : TypeId × Value → H) (F : Stop.Interp) :
    ReturnsInHanded {} Tryz.checked os 9 .any ((OpenSpec.ofChange Rows.depsSureSpec).preRow enc Tryz.prog Tryz.f9 Rows.depsSureRow.domain false Rows.depsSureRow.laid) (((OpenSpec.ofChange Rows.depsSureSpec).at F).post enc Tryz.prog Tryz.f9 false true false false) := by
  obtain ⟨places, hx⟩ := reads os enc
  refine returnsInHanded_of_row (C := Tryz.checked) (s := OpenSpec.ofChange Rows.depsSureSpec) own started (by kernel_rfl) Tryz.func9
    (witness_row_at (enc := enc) (C := Tryz.checked) false (Cg os) #[(.agg #[.slice none 0 0, .slice none 0 0] : Value), (.agg #[.slice none 0 0, .slice none 0 0] : Value), (.agg #[.int .i64 0, .int .i64 0, .int .i64 0, .int .i64 0] : Value)] rfl (by kernel_rfl) (by kernel_rfl) (by kernel_rfl)
      (OpenSpec.preRow_of_cond 8 hx (by kernel_rfl) (fun k hk => by cases hk) (by kernel_rfl) (Lm os))) ?_
  intro W base args ds gs before hval hW _ hcond hZ hL _ _
  exact contract H enc W base args ds gs before hval hW hZ hL
theorem said : Rows.DepsSureSaid :=
  OpenClaim.holds_of_cond 9 Tryz.f9 rfl rfl rfl rfl rfl rfl rfl ⟨rfl, rfl, rfl, rfl, rfl⟩ rfl rfl rfl rfl rfl (by kernel_rfl) Tryz.func9 (by kernel_rfl)
    (of_decide_eq_true (by kernel_rfl)) (by unfold Func.isWrapper; first | (rw [if_pos (by decide +kernel)]; kernel_rfl) | (rw [if_neg (by decide +kernel)]; exact ⟨rfl, rfl⟩))
    (fun os started H enc _ F => by rw [OpenClaim.pre_eq_preRow]; exact lifted os started H enc F)
end Go.Proofs.YtfpeabnehpclnaaGreatT
namespace Go.Proofs.YtfpeabnehpclnaaGreat
theorem depsSure_holds : Rows.DepsSureSaid := YtfpeabnehpclnaaGreatT.said
end Go.Proofs.YtfpeabnehpclnaaGreat
#print axioms Go.Proofs.YtfpeabnehpclnaaGreat.depsSure_holds
