/- The law BlameFits: the program's row. No condition is added. -/
import Derived.Test.YtfpeabnehpclnaaGreatRows
import Derived.WalkKit
import Derived.ProofKit
import Derived.OpenShut
import Derived.Deep.DeepHandedRow
import Derived.Lib.LaidTab
import Derived.SevenTiedAt
import Derived.Test.YtfpeabnehpclnaaGreatY
import Derived.Test.YtfpeabnehpclnaaGreatTW1
import Derived.Test.YtfpeabnehpclnaaGreatTW2
import Derived.Test.YtfpeabnehpclnaaGreatTW3
import Derived.Test.YtfpeabnehpclnaaGreatTW4
import Derived.Test.YtfpeabnehpclnaaGreatTW5
import Derived.Test.YtfpeabnehpclnaaGreatTW6
import Derived.Test.YtfpeabnehpclnaaGreatTW7
import Derived.Test.YtfpeabnehpclnaaGreatTW8
import Derived.Test.YtfpeabnehpclnaaGreatTPBF
namespace Go.Proofs.YtfpeabnehpclnaaGreatT
open Go Go.Proofs Go.Proofs.YtfpeabnehpclnaaGreatE Go.ChangeShapes Go.WideShapes Go.ChangeAt Go.RowKit Go.Proofs.YtfpeabnehpclnaaGreat
set_option linter.unusedVariables false
set_option linter.unusedSimpArgs false
set_option maxHeartbeats 0
set_option maxRecDepth 100000
theorem own : ownKnob Tryz.prog.godebug = none := by kernel_rfl
theorem UT : kF Tryz.prog 9 gJ (fun x => (x).size ≤ reachBytes) := Qn Tryz.underlying9
theorem Uf : kF Tryz.prog 22 (bH 9 gJ) (fun x => (∀ y ∈ x, (y).size ≤ reachBytes) ∧ (x).length * 16 ≤ 140737488351232) := yT Tryz.underlying22 UT (by kernel_rfl) (by decide) (by kernel_rfl)
theorem Om : kF Tryz.prog 2 (aG .i64) (fun x => (Lit.int .i64 x).wf = true) := KJ Tryz.underlying2
theorem wX : kF Tryz.prog 3 (aG .i64) (fun x => (Lit.int .i64 x).wf = true) := KJ Tryz.underlying3
theorem UU : kF Tryz.prog 4 rH (fun x => True) := Oo Tryz.underlying4
theorem Ug : kF Tryz.prog 66 (bH 2 (aG .i64)) (fun x => (∀ y ∈ x, (Lit.int .i64 y).wf = true) ∧ (x).length * 8 ≤ 140737488351232) := yT Tryz.underlying66 Om (by kernel_rfl) (by decide) (by kernel_rfl)
theorem Sl : kF Tryz.prog 70 (cK (aG .i64) (cK (aG .i64) (cK (aG .i64) (cK rH (bH 2 (aG .i64)))))) (fun x => ((Lit.int .i64 x.1).wf = true) ∧ ((Lit.int .i64 x.2.1).wf = true) ∧ ((Lit.int .i64 x.2.2.1).wf = true) ∧ (True) ∧ ((∀ y ∈ x.2.2.2.2, (Lit.int .i64 y).wf = true) ∧ (x.2.2.2.2).length * 8 ≤ 140737488351232)) := by
  refine tC Tryz.underlying70 ?_ (by kernel_rfl)
  show xu _ [_, _, _, _, _] _ _ _
  refine oO (G' := fun x : Int × Int × Bool × (List Int) => ((Lit.int .i64 x.1).wf = true) ∧ ((Lit.int .i64 x.2.1).wf = true) ∧ (True) ∧ ((∀ y ∈ x.2.2.2, (Lit.int .i64 y).wf = true) ∧ (x.2.2.2).length * 8 ≤ 140737488351232)) wX (by kernel_rfl) (by kernel_rfl) (by kernel_rfl) ?_
  refine oO (G' := fun x : Int × Bool × (List Int) => ((Lit.int .i64 x.1).wf = true) ∧ (True) ∧ ((∀ y ∈ x.2.2, (Lit.int .i64 y).wf = true) ∧ (x.2.2).length * 8 ≤ 140737488351232)) wX (by kernel_rfl) (by kernel_rfl) (by kernel_rfl) ?_
  refine oO (G' := fun x : Bool × (List Int) => (True) ∧ ((∀ y ∈ x.2, (Lit.int .i64 y).wf = true) ∧ (x.2).length * 8 ≤ 140737488351232)) Om (by kernel_rfl) (by kernel_rfl) (by kernel_rfl) ?_
  refine oO (G' := fun x : (List Int) => ((∀ y ∈ x, (Lit.int .i64 y).wf = true) ∧ (x).length * 8 ≤ 140737488351232)) UU (by kernel_rfl) (by kernel_rfl) (by kernel_rfl) ?_
  exact Dy Ug (by kernel_rfl) (by kernel_rfl) (by kernel_rfl)
theorem Uh : kF Tryz.prog 70 (Ty.iso (cK (aG .i64) (cK (aG .i64) (cK (aG .i64) (cK rH (bH 2 (aG .i64)))))) (fun g : Op => (g.Kind, (g.Key, (g.Arg, (g.Got, g.Vals)))))) (fun x => ((Lit.int .i64 (x).Kind).wf = true) ∧ ((Lit.int .i64 (x).Key).wf = true) ∧ ((Lit.int .i64 (x).Arg).wf = true) ∧ (True) ∧ ((∀ y ∈ (x).Vals, (Lit.int .i64 y).wf = true) ∧ ((x).Vals).length * 8 ≤ 140737488351232)) := Dz Sl _ (fun x => (⟨x.1, x.2.1, x.2.2.1, x.2.2.2.1, x.2.2.2.2⟩ : Op)) (fun _ => rfl)
theorem Ui : kF Tryz.prog 63 (bH 70 (Ty.iso (cK (aG .i64) (cK (aG .i64) (cK (aG .i64) (cK rH (bH 2 (aG .i64)))))) (fun g : Op => (g.Kind, (g.Key, (g.Arg, (g.Got, g.Vals))))))) (fun x => (∀ y2 ∈ x, ((Lit.int .i64 (y2).Kind).wf = true) ∧ ((Lit.int .i64 (y2).Key).wf = true) ∧ ((Lit.int .i64 (y2).Arg).wf = true) ∧ (True) ∧ ((∀ y ∈ (y2).Vals, (Lit.int .i64 y).wf = true) ∧ ((y2).Vals).length * 8 ≤ 140737488351232)) ∧ (x).length * 56 ≤ 140737488351232) := yT Tryz.underlying63 Uh (by kernel_rfl) (by decide) (by kernel_rfl)
theorem Sm : kF Tryz.prog 65 (cK (aG .i64) (cK (aG .i64) (cK (aG .i64) (cK (aG .i64) (bH 70 (Ty.iso (cK (aG .i64) (cK (aG .i64) (cK (aG .i64) (cK rH (bH 2 (aG .i64)))))) (fun g : Op => (g.Kind, (g.Key, (g.Arg, (g.Got, g.Vals))))))))))) (fun x => ((Lit.int .i64 x.1).wf = true) ∧ ((Lit.int .i64 x.2.1).wf = true) ∧ ((Lit.int .i64 x.2.2.1).wf = true) ∧ ((Lit.int .i64 x.2.2.2.1).wf = true) ∧ ((∀ y2 ∈ x.2.2.2.2, ((Lit.int .i64 (y2).Kind).wf = true) ∧ ((Lit.int .i64 (y2).Key).wf = true) ∧ ((Lit.int .i64 (y2).Arg).wf = true) ∧ (True) ∧ ((∀ y ∈ (y2).Vals, (Lit.int .i64 y).wf = true) ∧ ((y2).Vals).length * 8 ≤ 140737488351232)) ∧ (x.2.2.2.2).length * 56 ≤ 140737488351232)) := by
  refine tC Tryz.underlying65 ?_ (by kernel_rfl)
  show xu _ [_, _, _, _, _] _ _ _
  refine oO (G' := fun x : Int × Int × Int × (List Op) => ((Lit.int .i64 x.1).wf = true) ∧ ((Lit.int .i64 x.2.1).wf = true) ∧ ((Lit.int .i64 x.2.2.1).wf = true) ∧ ((∀ y2 ∈ x.2.2.2, ((Lit.int .i64 (y2).Kind).wf = true) ∧ ((Lit.int .i64 (y2).Key).wf = true) ∧ ((Lit.int .i64 (y2).Arg).wf = true) ∧ (True) ∧ ((∀ y ∈ (y2).Vals, (Lit.int .i64 y).wf = true) ∧ ((y2).Vals).length * 8 ≤ 140737488351232)) ∧ (x.2.2.2).length * 56 ≤ 140737488351232)) Om (by kernel_rfl) (by kernel_rfl) (by kernel_rfl) ?_
  refine oO (G' := fun x : Int × Int × (List Op) => ((Lit.int .i64 x.1).wf = true) ∧ ((Lit.int .i64 x.2.1).wf = true) ∧ ((∀ y2 ∈ x.2.2, ((Lit.int .i64 (y2).Kind).wf = true) ∧ ((Lit.int .i64 (y2).Key).wf = true) ∧ ((Lit.int .i64 (y2).Arg).wf = true) ∧ (True) ∧ ((∀ y ∈ (y2).Vals, (Lit.int .i64 y).wf = true) ∧ ((y2).Vals).length * 8 ≤ 140737488351232)) ∧ (x.2.2).length * 56 ≤ 140737488351232)) wX (by kernel_rfl) (by kernel_rfl) (by kernel_rfl) ?_
  refine oO (G' := fun x : Int × (List Op) => ((Lit.int .i64 x.1).wf = true) ∧ ((∀ y2 ∈ x.2, ((Lit.int .i64 (y2).Kind).wf = true) ∧ ((Lit.int .i64 (y2).Key).wf = true) ∧ ((Lit.int .i64 (y2).Arg).wf = true) ∧ (True) ∧ ((∀ y ∈ (y2).Vals, (Lit.int .i64 y).wf = true) ∧ ((y2).Vals).length * 8 ≤ 140737488351232)) ∧ (x.2).length * 56 ≤ 140737488351232)) wX (by kernel_rfl) (by kernel_rfl) (by kernel_rfl) ?_
  refine oO (G' := fun x : (List Op) => ((∀ y2 ∈ x, ((Lit.int .i64 (y2).Kind).wf = true) ∧ ((Lit.int .i64 (y2).Key).wf = true) ∧ ((Lit.int .i64 (y2).Arg).wf = true) ∧ (True) ∧ ((∀ y ∈ (y2).Vals, (Lit.int .i64 y).wf = true) ∧ ((y2).Vals).length * 8 ≤ 140737488351232)) ∧ (x).length * 56 ≤ 140737488351232)) wX (by kernel_rfl) (by kernel_rfl) (by kernel_rfl) ?_
  exact Dy Ui (by kernel_rfl) (by kernel_rfl) (by kernel_rfl)
theorem Uj : kF Tryz.prog 65 (Ty.iso (cK (aG .i64) (cK (aG .i64) (cK (aG .i64) (cK (aG .i64) (bH 70 (Ty.iso (cK (aG .i64) (cK (aG .i64) (cK (aG .i64) (cK rH (bH 2 (aG .i64)))))) (fun g : Op => (g.Kind, (g.Key, (g.Arg, (g.Got, g.Vals))))))))))) (fun g : Txn => (g.Proc, (g.Status, (g.From, (g.To, g.Ops)))))) (fun x => ((Lit.int .i64 (x).Proc).wf = true) ∧ ((Lit.int .i64 (x).Status).wf = true) ∧ ((Lit.int .i64 (x).From).wf = true) ∧ ((Lit.int .i64 (x).To).wf = true) ∧ ((∀ y2 ∈ (x).Ops, ((Lit.int .i64 (y2).Kind).wf = true) ∧ ((Lit.int .i64 (y2).Key).wf = true) ∧ ((Lit.int .i64 (y2).Arg).wf = true) ∧ (True) ∧ ((∀ y ∈ (y2).Vals, (Lit.int .i64 y).wf = true) ∧ ((y2).Vals).length * 8 ≤ 140737488351232)) ∧ ((x).Ops).length * 56 ≤ 140737488351232)) := Dz Sm _ (fun x => (⟨x.1, x.2.1, x.2.2.1, x.2.2.2.1, x.2.2.2.2⟩ : Txn)) (fun _ => rfl)
theorem Uk : kF Tryz.prog 23 (bH 65 (Ty.iso (cK (aG .i64) (cK (aG .i64) (cK (aG .i64) (cK (aG .i64) (bH 70 (Ty.iso (cK (aG .i64) (cK (aG .i64) (cK (aG .i64) (cK rH (bH 2 (aG .i64)))))) (fun g : Op => (g.Kind, (g.Key, (g.Arg, (g.Got, g.Vals))))))))))) (fun g : Txn => (g.Proc, (g.Status, (g.From, (g.To, g.Ops))))))) (fun x => (∀ y3 ∈ x, ((Lit.int .i64 (y3).Proc).wf = true) ∧ ((Lit.int .i64 (y3).Status).wf = true) ∧ ((Lit.int .i64 (y3).From).wf = true) ∧ ((Lit.int .i64 (y3).To).wf = true) ∧ ((∀ y2 ∈ (y3).Ops, ((Lit.int .i64 (y2).Kind).wf = true) ∧ ((Lit.int .i64 (y2).Key).wf = true) ∧ ((Lit.int .i64 (y2).Arg).wf = true) ∧ (True) ∧ ((∀ y ∈ (y2).Vals, (Lit.int .i64 y).wf = true) ∧ ((y2).Vals).length * 8 ≤ 140737488351232)) ∧ ((y3).Ops).length * 56 ≤ 140737488351232)) ∧ (x).length * 56 ≤ 140737488351232) := yT Tryz.underlying23 Uj (by kernel_rfl) (by decide) (by kernel_rfl)
theorem Sn : kF Tryz.prog 25 (cK (bH 9 gJ) (bH 65 (Ty.iso (cK (aG .i64) (cK (aG .i64) (cK (aG .i64) (cK (aG .i64) (bH 70 (Ty.iso (cK (aG .i64) (cK (aG .i64) (cK (aG .i64) (cK rH (bH 2 (aG .i64)))))) (fun g : Op => (g.Kind, (g.Key, (g.Arg, (g.Got, g.Vals))))))))))) (fun g : Txn => (g.Proc, (g.Status, (g.From, (g.To, g.Ops)))))))) (fun x => ((∀ y ∈ x.1, (y).size ≤ reachBytes) ∧ (x.1).length * 16 ≤ 140737488351232) ∧ ((∀ y3 ∈ x.2, ((Lit.int .i64 (y3).Proc).wf = true) ∧ ((Lit.int .i64 (y3).Status).wf = true) ∧ ((Lit.int .i64 (y3).From).wf = true) ∧ ((Lit.int .i64 (y3).To).wf = true) ∧ ((∀ y2 ∈ (y3).Ops, ((Lit.int .i64 (y2).Kind).wf = true) ∧ ((Lit.int .i64 (y2).Key).wf = true) ∧ ((Lit.int .i64 (y2).Arg).wf = true) ∧ (True) ∧ ((∀ y ∈ (y2).Vals, (Lit.int .i64 y).wf = true) ∧ ((y2).Vals).length * 8 ≤ 140737488351232)) ∧ ((y3).Ops).length * 56 ≤ 140737488351232)) ∧ (x.2).length * 56 ≤ 140737488351232)) := by
  refine tC Tryz.underlying25 ?_ (by kernel_rfl)
  show xu _ [_, _] _ _ _
  refine oO (G' := fun x : (List Txn) => ((∀ y3 ∈ x, ((Lit.int .i64 (y3).Proc).wf = true) ∧ ((Lit.int .i64 (y3).Status).wf = true) ∧ ((Lit.int .i64 (y3).From).wf = true) ∧ ((Lit.int .i64 (y3).To).wf = true) ∧ ((∀ y2 ∈ (y3).Ops, ((Lit.int .i64 (y2).Kind).wf = true) ∧ ((Lit.int .i64 (y2).Key).wf = true) ∧ ((Lit.int .i64 (y2).Arg).wf = true) ∧ (True) ∧ ((∀ y ∈ (y2).Vals, (Lit.int .i64 y).wf = true) ∧ ((y2).Vals).length * 8 ≤ 140737488351232)) ∧ ((y3).Ops).length * 56 ≤ 140737488351232)) ∧ (x).length * 56 ≤ 140737488351232)) Uf (by kernel_rfl) (by kernel_rfl) (by kernel_rfl) ?_
  exact Dy Uk (by kernel_rfl) (by kernel_rfl) (by kernel_rfl)
theorem Ul : kF Tryz.prog 25 (Ty.iso (cK (bH 9 gJ) (bH 65 (Ty.iso (cK (aG .i64) (cK (aG .i64) (cK (aG .i64) (cK (aG .i64) (bH 70 (Ty.iso (cK (aG .i64) (cK (aG .i64) (cK (aG .i64) (cK rH (bH 2 (aG .i64)))))) (fun g : Op => (g.Kind, (g.Key, (g.Arg, (g.Got, g.Vals))))))))))) (fun g : Txn => (g.Proc, (g.Status, (g.From, (g.To, g.Ops)))))))) (fun g : History => (g.Keys, g.Txns))) (fun x => ((∀ y ∈ (x).Keys, (y).size ≤ reachBytes) ∧ ((x).Keys).length * 16 ≤ 140737488351232) ∧ ((∀ y3 ∈ (x).Txns, ((Lit.int .i64 (y3).Proc).wf = true) ∧ ((Lit.int .i64 (y3).Status).wf = true) ∧ ((Lit.int .i64 (y3).From).wf = true) ∧ ((Lit.int .i64 (y3).To).wf = true) ∧ ((∀ y2 ∈ (y3).Ops, ((Lit.int .i64 (y2).Kind).wf = true) ∧ ((Lit.int .i64 (y2).Key).wf = true) ∧ ((Lit.int .i64 (y2).Arg).wf = true) ∧ (True) ∧ ((∀ y ∈ (y2).Vals, (Lit.int .i64 y).wf = true) ∧ ((y2).Vals).length * 8 ≤ 140737488351232)) ∧ ((y3).Ops).length * 56 ≤ 140737488351232)) ∧ ((x).Txns).length * 56 ≤ 140737488351232)) := Dz Sn _ (fun x => (⟨x.1, x.2⟩ : History)) (fun _ => rfl)
theorem Sq : kF Tryz.prog 27 (cK (aG .i64) (aG .i64)) (fun x => ((Lit.int .i64 x.1).wf = true) ∧ ((Lit.int .i64 x.2).wf = true)) := by
  refine tC Tryz.underlying27 ?_ (by kernel_rfl)
  show xu _ [_, _] _ _ _
  refine oO (G' := fun x : Int => ((Lit.int .i64 x).wf = true)) wX (by kernel_rfl) (by kernel_rfl) (by kernel_rfl) ?_
  exact Dy wX (by kernel_rfl) (by kernel_rfl) (by kernel_rfl)
theorem Um : kF Tryz.prog 27 yu (fun x => ((Lit.int .i64 (x).Txn).wf = true) ∧ ((Lit.int .i64 (x).Place).wf = true)) := Jj Sq (fun x => (⟨x.1, x.2⟩ : Spot)) (fun H a cs h => by
  obtain ⟨_, _, rfl, h0, h1⟩ := h
  cases h0
  cases h1
  rfl) (fun a h => h)
theorem Sr : kF Tryz.prog 43 (cK (aG .i64) (cK (aG .i64) (cK (aG .i64) (aG .i64)))) (fun x => ((Lit.int .i64 x.1).wf = true) ∧ ((Lit.int .i64 x.2.1).wf = true) ∧ ((Lit.int .i64 x.2.2.1).wf = true) ∧ ((Lit.int .i64 x.2.2.2).wf = true)) := by
  refine tC Tryz.underlying43 ?_ (by kernel_rfl)
  show xu _ [_, _, _, _] _ _ _
  refine oO (G' := fun x : Int × Int × Int => ((Lit.int .i64 x.1).wf = true) ∧ ((Lit.int .i64 x.2.1).wf = true) ∧ ((Lit.int .i64 x.2.2).wf = true)) wX (by kernel_rfl) (by kernel_rfl) (by kernel_rfl) ?_
  refine oO (G' := fun x : Int × Int => ((Lit.int .i64 x.1).wf = true) ∧ ((Lit.int .i64 x.2).wf = true)) wX (by kernel_rfl) (by kernel_rfl) (by kernel_rfl) ?_
  refine oO (G' := fun x : Int => ((Lit.int .i64 x).wf = true)) wX (by kernel_rfl) (by kernel_rfl) (by kernel_rfl) ?_
  exact Dy wX (by kernel_rfl) (by kernel_rfl) (by kernel_rfl)
theorem Un : kF Tryz.prog 43 fH (fun x => ((Lit.int .i64 (x).From).wf = true) ∧ ((Lit.int .i64 (x).To).wf = true) ∧ ((Lit.int .i64 (x).Kind).wf = true) ∧ ((Lit.int .i64 (x).Key).wf = true)) := Jj Sr (fun x => (⟨x.1, x.2.1, x.2.2.1, x.2.2.2⟩ : Edge)) (fun H a cs h => by
  obtain ⟨_, _, rfl, h0, ⟨_, _, rfl, h1, ⟨_, _, rfl, h2, h3⟩⟩⟩ := h
  cases h0
  cases h1
  cases h2
  cases h3
  rfl) (fun a h => h)
theorem Uo : kF Tryz.prog 28 (bH 43 fH) (fun x => (∀ y ∈ x, ((Lit.int .i64 (y).From).wf = true) ∧ ((Lit.int .i64 (y).To).wf = true) ∧ ((Lit.int .i64 (y).Kind).wf = true) ∧ ((Lit.int .i64 (y).Key).wf = true)) ∧ (x).length * 32 ≤ 140737488351232) := yT Tryz.underlying28 Un (by kernel_rfl) (by decide) (by kernel_rfl)
theorem Su : kF Tryz.prog 30 (cK (aG .i64) (cK (aG .i64) (cK yu (bH 43 fH)))) (fun x => ((Lit.int .i64 x.1).wf = true) ∧ ((Lit.int .i64 x.2.1).wf = true) ∧ (((Lit.int .i64 (x.2.2.1).Txn).wf = true) ∧ ((Lit.int .i64 (x.2.2.1).Place).wf = true)) ∧ ((∀ y ∈ x.2.2.2, ((Lit.int .i64 (y).From).wf = true) ∧ ((Lit.int .i64 (y).To).wf = true) ∧ ((Lit.int .i64 (y).Kind).wf = true) ∧ ((Lit.int .i64 (y).Key).wf = true)) ∧ (x.2.2.2).length * 32 ≤ 140737488351232)) := by
  refine tC Tryz.underlying30 ?_ (by kernel_rfl)
  show xu _ [_, _, _, _] _ _ _
  refine oO (G' := fun x : Int × Spot × (List Edge) => ((Lit.int .i64 x.1).wf = true) ∧ (((Lit.int .i64 (x.2.1).Txn).wf = true) ∧ ((Lit.int .i64 (x.2.1).Place).wf = true)) ∧ ((∀ y ∈ x.2.2, ((Lit.int .i64 (y).From).wf = true) ∧ ((Lit.int .i64 (y).To).wf = true) ∧ ((Lit.int .i64 (y).Kind).wf = true) ∧ ((Lit.int .i64 (y).Key).wf = true)) ∧ (x.2.2).length * 32 ≤ 140737488351232)) wX (by kernel_rfl) (by kernel_rfl) (by kernel_rfl) ?_
  refine oO (G' := fun x : Spot × (List Edge) => (((Lit.int .i64 (x.1).Txn).wf = true) ∧ ((Lit.int .i64 (x.1).Place).wf = true)) ∧ ((∀ y ∈ x.2, ((Lit.int .i64 (y).From).wf = true) ∧ ((Lit.int .i64 (y).To).wf = true) ∧ ((Lit.int .i64 (y).Kind).wf = true) ∧ ((Lit.int .i64 (y).Key).wf = true)) ∧ (x.2).length * 32 ≤ 140737488351232)) wX (by kernel_rfl) (by kernel_rfl) (by kernel_rfl) ?_
  refine oO (G' := fun x : (List Edge) => ((∀ y ∈ x, ((Lit.int .i64 (y).From).wf = true) ∧ ((Lit.int .i64 (y).To).wf = true) ∧ ((Lit.int .i64 (y).Kind).wf = true) ∧ ((Lit.int .i64 (y).Key).wf = true)) ∧ (x).length * 32 ≤ 140737488351232)) Um (by kernel_rfl) (by kernel_rfl) (by kernel_rfl) ?_
  exact Dy Uo (by kernel_rfl) (by kernel_rfl) (by kernel_rfl)
theorem Uq : kF Tryz.prog 30 (Ty.iso (cK (aG .i64) (cK (aG .i64) (cK yu (bH 43 fH)))) (fun g : dz => (g.Kind, (g.Level, (g.Spot, g.Cycle))))) (fun x => ((Lit.int .i64 (x).Kind).wf = true) ∧ ((Lit.int .i64 (x).Level).wf = true) ∧ (((Lit.int .i64 ((x).Spot).Txn).wf = true) ∧ ((Lit.int .i64 ((x).Spot).Place).wf = true)) ∧ ((∀ y ∈ (x).Cycle, ((Lit.int .i64 (y).From).wf = true) ∧ ((Lit.int .i64 (y).To).wf = true) ∧ ((Lit.int .i64 (y).Kind).wf = true) ∧ ((Lit.int .i64 (y).Key).wf = true)) ∧ ((x).Cycle).length * 32 ≤ 140737488351232)) := Dz Su _ (fun x => (⟨x.1, x.2.1, x.2.2.1, x.2.2.2⟩ : dz)) (fun _ => rfl)
theorem readable : ∀ t ∈ Tryz.f3.params.toList, Tryz.prog.readableRec t = true ∧ t < Tryz.prog.types.size := by
  rw [Tryz.params3]
  intro t ht
  have ht : t ∈ [25, 30] := ht
  simp only [List.mem_cons, List.not_mem_nil, or_false] at ht
  rcases ht with rfl | rfl <;> exact ⟨by kernel_rfl, of_decide_eq_true (by kernel_rfl)⟩
theorem contract (H : Type) (enc : TypeId × Value → H) (W : World) (base : Nat) (args : Array Value) (ds gs : List (DataW H)) (before : List MemPlace)
    (hval : ∀ (j : Nat) t v, Tryz.f3.params[j]? = some t → args[j]? = some v → Value.okWide Tryz.prog W .any base t v)
    (hW : DataW.Whole enc Tryz.prog Tryz.f3.params.toList Rows.blameFitsSpec.vars false W args.toList ds gs before)
    (hZ : (DataW.weightsEach Tryz.prog (Tryz.f3.params.toList ++ (OpenSpec.ofChange Rows.blameFitsSpec).bare.plain.varTypes Tryz.prog) (ds ++ gs)).all (· ≤ reachBytes) = true) (hL : laidMetH Tryz.prog Rows.blameFitsRow.laid W) :
    Calls Tryz.prog 3 args W fun e W' => ∃ v, e = .returned v ∧ Rows.blameFitsSpec.post enc Tryz.prog Tryz.f3 false true false false W args v W' := by
  have hW' := hW
  obtain ⟨p, q, hA0, hV, hpq, hfz, hnd⟩ := hW
  have hA : DataW.TrodAll enc Tryz.prog W 0 (fun _ => true) true Tryz.f3.params.toList args.toList ds p := hA0
  rw [Tryz.params3] at hA hval hZ
  obtain ⟨v0, vs0, d0, ds0, p0, q0, hargs0, hds0, hpp0, h0, r0⟩ := trodAll_cons hA
  obtain ⟨v1, vs1, d1, ds1, p1, q1, hargs1, hds1, hpp1, h1, r1⟩ := trodAll_cons r0
  obtain ⟨e0, e1, e2⟩ := trodAll_nil r1
  obtain ⟨rfl, rfl⟩ := trodVars_none hV
  subst hds0 hds1 e0 e1
  have hargs : args = #[v0, v1] := by
    cases args with
    | mk l =>
      have hl : l = [v0, v1] := by rw [show l = _ from hargs0, hargs1]
      rw [hl]
  subst hargs
  have hZ' := fun x hx => of_decide_eq_true (List.all_eq_true.1 hZ x hx)
  clear hZ
  have w0 : ∀ n ∈ DataW.weights Tryz.prog 25 d0, n ≤ reachBytes := fun n hm => hZ' n (List.mem_append_left _ hm)
  have w1 : ∀ n ∈ DataW.weights Tryz.prog 30 d1, n ≤ reachBytes := fun n hm => hZ' n (List.mem_append_right _ (List.mem_append_left _ hm))
  obtain ⟨x0, ar0, rfl, k0, g0⟩ := Jk Ul Tryz.underlying25 (hval 0 25 v0 rfl rfl) h0 w0
  obtain ⟨x1, ar1, rfl, k1, g1⟩ := Jk Uq Tryz.underlying30 (hval 1 30 v1 rfl rfl) h1 w1
  obtain ⟨l0⟩ := ar0
  have k0 : Ty.rd _ _ _ l0 := k0
  obtain ⟨_, _, rfl, ⟨As1, cs1, rfl, ls1, rs1⟩, ⟨As2, cs2, rfl, ls2, rs2⟩⟩ := k0
  obtain ⟨l1⟩ := ar1
  have k1 : Ty.rd _ _ _ l1 := k1
  obtain ⟨_, _, rfl, rfl, ⟨_, _, rfl, rfl, ⟨_, _, rfl, rfl, ⟨As3, cs3, rfl, ls3, rs3⟩⟩⟩⟩ := k1
  have H := JZ x0 x1 g0 g1
  refine (xY x0 As1 cs1 As2 cs2 x1 As3 cs3 (aM W) W (Inv.start W)  rs1 ls1 rs2 ls2 rs3 ls3 true H).mono fun e W'' hh => ?_
  obtain ⟨rfl, hI⟩ := hh
  exact ⟨_, rfl, SA (by kernel_rfl) hW' rfl rfl Tryz.underlying4 readable rfl rfl rfl hI.below⟩
noncomputable def Gt (os : Os) : World := World.holding Tryz.prog os ⟨#[], #[], []⟩
theorem Sv (os : Os) : laidMet Tryz.prog Rows.blameFitsRow.laid ((Gt os).forCall (fun _ _ => 0) ⟨#[], #[(.agg #[.slice none 0 0, .slice none 0 0] : Value), (.agg #[.int .i64 0, .int .i64 0, .int .i64 0, .int .i64 0, .slice none 0 0] : Value)], []⟩).memory := laidMet_of_run' 8 (by kernel_rfl) (by kernel_rfl)
theorem reads (os : Os) {H : Type} (enc : TypeId × Value → H) : ∃ places, DataW.whole enc Tryz.prog ((Gt os).forCall (fun _ _ => 0) ⟨#[], #[(.agg #[.slice none 0 0, .slice none 0 0] : Value), (.agg #[.int .i64 0, .int .i64 0, .int .i64 0, .int .i64 0, .slice none 0 0] : Value)], []⟩).memory Tryz.f3.params.toList Rows.blameFitsSpec.vars false (#[(.agg #[.slice none 0 0, .slice none 0 0] : Value), (.agg #[.int .i64 0, .int .i64 0, .int .i64 0, .int .i64 0, .slice none 0 0] : Value)]).toList 8 = some ([.agg [.nil, .nil], .agg [.lit (.int .i64 0), .lit (.int .i64 0), .agg [.lit (.int .i64 0), .lit (.int .i64 0)], .nil]], [], places) :=
  ⟨[], by kernel_rfl⟩
theorem lifted (os : Os) (started : os.Started) (H : Type) (enc : TypeId × Value → H) (F : Stop.Interp) :
    ReturnsInHanded {} Tryz.checked os 3 .any ((OpenSpec.ofChange Rows.blameFitsSpec).preRow enc Tryz.prog Tryz.f3 Rows.blameFitsRow.domain false Rows.blameFitsRow.laid) (((OpenSpec.ofChange Rows.blameFitsSpec).at F).post enc Tryz.prog Tryz.f3 false true false false) := by
  obtain ⟨places, hx⟩ := reads os enc
  refine returnsInHanded_of_row (C := Tryz.checked) (s := OpenSpec.ofChange Rows.blameFitsSpec) own started (by kernel_rfl) Tryz.func3
    (witness_row_at (enc := enc) (C := Tryz.checked) false (Gt os) #[(.agg #[.slice none 0 0, .slice none 0 0] : Value), (.agg #[.int .i64 0, .int .i64 0, .int .i64 0, .int .i64 0, .slice none 0 0] : Value)] rfl (by kernel_rfl) (by kernel_rfl) (by kernel_rfl)
      (OpenSpec.preRow_of_cond 8 hx (by kernel_rfl) (fun k hk => by cases hk) (by kernel_rfl) (Sv os))) ?_
  intro W base args ds gs before hval hW _ hcond hZ hL _ _
  exact contract H enc W base args ds gs before hval hW hZ hL
theorem said : Rows.BlameFitsSaid :=
  OpenClaim.holds_of_cond 3 Tryz.f3 rfl rfl rfl rfl rfl rfl rfl ⟨rfl, rfl, rfl, rfl, rfl⟩ rfl rfl rfl rfl rfl (by kernel_rfl) Tryz.func3 (by kernel_rfl)
    (of_decide_eq_true (by kernel_rfl)) (by unfold Func.isWrapper; first | (rw [if_pos (by decide +kernel)]; kernel_rfl) | (rw [if_neg (by decide +kernel)]; exact ⟨rfl, rfl⟩))
    (fun os started H enc _ F => by rw [OpenClaim.pre_eq_preRow]; exact lifted os started H enc F)
end Go.Proofs.YtfpeabnehpclnaaGreatT
namespace Go.Proofs.YtfpeabnehpclnaaGreat
theorem blameFits_holds : Rows.BlameFitsSaid := YtfpeabnehpclnaaGreatT.said
end Go.Proofs.YtfpeabnehpclnaaGreat
#print axioms Go.Proofs.YtfpeabnehpclnaaGreat.blameFits_holds
