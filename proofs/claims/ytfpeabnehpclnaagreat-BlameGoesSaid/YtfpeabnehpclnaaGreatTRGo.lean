/- The law BlameGoes: the program's row. No condition is added. -/
import Derived.Test.YtfpeabnehpclnaaGreatRows
import Derived.WalkKit
import Derived.ProofKit
import Derived.OpenShut
import Derived.Deep.DeepHandedRow
import Derived.Lib.LaidTab
import Derived.SevenTiedAt
import Derived.Test.YtfpeabnehpclnaaGreatY
import Derived.Test.YtfpeabnehpclnaaGreatTW1
import Derived.Test.YtfpeabnehpclnaaGreatTW2
import Derived.Test.YtfpeabnehpclnaaGreatTW3
import Derived.Test.YtfpeabnehpclnaaGreatTW4
import Derived.Test.YtfpeabnehpclnaaGreatTPBG
namespace Go.Proofs.YtfpeabnehpclnaaGreatT
open Go Go.Proofs Go.Proofs.YtfpeabnehpclnaaGreatE Go.ChangeShapes Go.WideShapes Go.ChangeAt Go.RowKit Go.Proofs.YtfpeabnehpclnaaGreat
set_option linter.unusedVariables false
set_option linter.unusedSimpArgs false
set_option maxHeartbeats 0
set_option maxRecDepth 100000
theorem own : ownKnob Tryz.prog.godebug = none := by kernel_rfl
theorem Te : mo Tryz.prog 9 jq (fun x => (x).size ≤ reachBytes) := Oz Tryz.underlying9
theorem RS : mo Tryz.prog 22 (bB 9 jq) (fun x => (∀ y ∈ x, (y).size ≤ reachBytes) ∧ (x).length * 16 ≤ 140737488351232) := yP Tryz.underlying22 Te (by kernel_rfl) (by decide) (by kernel_rfl)
theorem LX : mo Tryz.prog 2 (aH .i64) (fun x => (Lit.int .i64 x).wf = true) := Ib Tryz.underlying2
theorem FU : mo Tryz.prog 3 (aH .i64) (fun x => (Lit.int .i64 x).wf = true) := Ib Tryz.underlying3
theorem Tf : mo Tryz.prog 4 sD (fun x => True) := Mc Tryz.underlying4
theorem RU : mo Tryz.prog 66 (bB 2 (aH .i64)) (fun x => (∀ y ∈ x, (Lit.int .i64 y).wf = true) ∧ (x).length * 8 ≤ 140737488351232) := yP Tryz.underlying66 LX (by kernel_rfl) (by decide) (by kernel_rfl)
theorem Qs : mo Tryz.prog 70 (cO (aH .i64) (cO (aH .i64) (cO (aH .i64) (cO sD (bB 2 (aH .i64)))))) (fun x => ((Lit.int .i64 x.1).wf = true) ∧ ((Lit.int .i64 x.2.1).wf = true) ∧ ((Lit.int .i64 x.2.2.1).wf = true) ∧ (True) ∧ ((∀ y ∈ x.2.2.2.2, (Lit.int .i64 y).wf = true) ∧ (x.2.2.2.2).length * 8 ≤ 140737488351232)) := by
  refine yO Tryz.underlying70 ?_ (by kernel_rfl)
  show yN _ [_, _, _, _, _] _ _ _
  refine vD (G' := fun x : Int × Int × Bool × (List Int) => ((Lit.int .i64 x.1).wf = true) ∧ ((Lit.int .i64 x.2.1).wf = true) ∧ (True) ∧ ((∀ y ∈ x.2.2.2, (Lit.int .i64 y).wf = true) ∧ (x.2.2.2).length * 8 ≤ 140737488351232)) FU (by kernel_rfl) (by kernel_rfl) (by kernel_rfl) ?_
  refine vD (G' := fun x : Int × Bool × (List Int) => ((Lit.int .i64 x.1).wf = true) ∧ (True) ∧ ((∀ y ∈ x.2.2, (Lit.int .i64 y).wf = true) ∧ (x.2.2).length * 8 ≤ 140737488351232)) FU (by kernel_rfl) (by kernel_rfl) (by kernel_rfl) ?_
  refine vD (G' := fun x : Bool × (List Int) => (True) ∧ ((∀ y ∈ x.2, (Lit.int .i64 y).wf = true) ∧ (x.2).length * 8 ≤ 140737488351232)) LX (by kernel_rfl) (by kernel_rfl) (by kernel_rfl) ?_
  refine vD (G' := fun x : (List Int) => ((∀ y ∈ x, (Lit.int .i64 y).wf = true) ∧ (x).length * 8 ≤ 140737488351232)) Tf (by kernel_rfl) (by kernel_rfl) (by kernel_rfl) ?_
  exact Jb RU (by kernel_rfl) (by kernel_rfl) (by kernel_rfl)
theorem RV : mo Tryz.prog 70 (Ty.iso (cO (aH .i64) (cO (aH .i64) (cO (aH .i64) (cO sD (bB 2 (aH .i64)))))) (fun g : Op => (g.Kind, (g.Key, (g.Arg, (g.Got, g.Vals)))))) (fun x => ((Lit.int .i64 (x).Kind).wf = true) ∧ ((Lit.int .i64 (x).Key).wf = true) ∧ ((Lit.int .i64 (x).Arg).wf = true) ∧ (True) ∧ ((∀ y ∈ (x).Vals, (Lit.int .i64 y).wf = true) ∧ ((x).Vals).length * 8 ≤ 140737488351232)) := DI Qs _ (fun x => (⟨x.1, x.2.1, x.2.2.1, x.2.2.2.1, x.2.2.2.2⟩ : Op)) (fun _ => rfl)
theorem RX : mo Tryz.prog 63 (bB 70 (Ty.iso (cO (aH .i64) (cO (aH .i64) (cO (aH .i64) (cO sD (bB 2 (aH .i64)))))) (fun g : Op => (g.Kind, (g.Key, (g.Arg, (g.Got, g.Vals))))))) (fun x => (∀ y2 ∈ x, ((Lit.int .i64 (y2).Kind).wf = true) ∧ ((Lit.int .i64 (y2).Key).wf = true) ∧ ((Lit.int .i64 (y2).Arg).wf = true) ∧ (True) ∧ ((∀ y ∈ (y2).Vals, (Lit.int .i64 y).wf = true) ∧ ((y2).Vals).length * 8 ≤ 140737488351232)) ∧ (x).length * 56 ≤ 140737488351232) := yP Tryz.underlying63 RV (by kernel_rfl) (by decide) (by kernel_rfl)
theorem Qt : mo Tryz.prog 65 (cO (aH .i64) (cO (aH .i64) (cO (aH .i64) (cO (aH .i64) (bB 70 (Ty.iso (cO (aH .i64) (cO (aH .i64) (cO (aH .i64) (cO sD (bB 2 (aH .i64)))))) (fun g : Op => (g.Kind, (g.Key, (g.Arg, (g.Got, g.Vals))))))))))) (fun x => ((Lit.int .i64 x.1).wf = true) ∧ ((Lit.int .i64 x.2.1).wf = true) ∧ ((Lit.int .i64 x.2.2.1).wf = true) ∧ ((Lit.int .i64 x.2.2.2.1).wf = true) ∧ ((∀ y2 ∈ x.2.2.2.2, ((Lit.int .i64 (y2).Kind).wf = true) ∧ ((Lit.int .i64 (y2).Key).wf = true) ∧ ((Lit.int .i64 (y2).Arg).wf = true) ∧ (True) ∧ ((∀ y ∈ (y2).Vals, (Lit.int .i64 y).wf = true) ∧ ((y2).Vals).length * 8 ≤ 140737488351232)) ∧ (x.2.2.2.2).length * 56 ≤ 140737488351232)) := by
  refine yO Tryz.underlying65 ?_ (by kernel_rfl)
  show yN _ [_, _, _, _, _] _ _ _
  refine vD (G' := fun x : Int × Int × Int × (List Op) => ((Lit.int .i64 x.1).wf = true) ∧ ((Lit.int .i64 x.2.1).wf = true) ∧ ((Lit.int .i64 x.2.2.1).wf = true) ∧ ((∀ y2 ∈ x.2.2.2, ((Lit.int .i64 (y2).Kind).wf = true) ∧ ((Lit.int .i64 (y2).Key).wf = true) ∧ ((Lit.int .i64 (y2).Arg).wf = true) ∧ (True) ∧ ((∀ y ∈ (y2).Vals, (Lit.int .i64 y).wf = true) ∧ ((y2).Vals).length * 8 ≤ 140737488351232)) ∧ (x.2.2.2).length * 56 ≤ 140737488351232)) LX (by kernel_rfl) (by kernel_rfl) (by kernel_rfl) ?_
  refine vD (G' := fun x : Int × Int × (List Op) => ((Lit.int .i64 x.1).wf = true) ∧ ((Lit.int .i64 x.2.1).wf = true) ∧ ((∀ y2 ∈ x.2.2, ((Lit.int .i64 (y2).Kind).wf = true) ∧ ((Lit.int .i64 (y2).Key).wf = true) ∧ ((Lit.int .i64 (y2).Arg).wf = true) ∧ (True) ∧ ((∀ y ∈ (y2).Vals, (Lit.int .i64 y).wf = true) ∧ ((y2).Vals).length * 8 ≤ 140737488351232)) ∧ (x.2.2).length * 56 ≤ 140737488351232)) FU (by kernel_rfl) (by kernel_rfl) (by kernel_rfl) ?_
  refine vD (G' := fun x : Int × (List Op) => ((Lit.int .i64 x.1).wf = true) ∧ ((∀ y2 ∈ x.2, ((Lit.int .i64 (y2).Kind).wf = true) ∧ ((Lit.int .i64 (y2).Key).wf = true) ∧ ((Lit.int .i64 (y2).Arg).wf = true) ∧ (True) ∧ ((∀ y ∈ (y2).Vals, (Lit.int .i64 y).wf = true) ∧ ((y2).Vals).length * 8 ≤ 140737488351232)) ∧ (x.2).length * 56 ≤ 140737488351232)) FU (by kernel_rfl) (by kernel_rfl) (by kernel_rfl) ?_
  refine vD (G' := fun x : (List Op) => ((∀ y2 ∈ x, ((Lit.int .i64 (y2).Kind).wf = true) ∧ ((Lit.int .i64 (y2).Key).wf = true) ∧ ((Lit.int .i64 (y2).Arg).wf = true) ∧ (True) ∧ ((∀ y ∈ (y2).Vals, (Lit.int .i64 y).wf = true) ∧ ((y2).Vals).length * 8 ≤ 140737488351232)) ∧ (x).length * 56 ≤ 140737488351232)) FU (by kernel_rfl) (by kernel_rfl) (by kernel_rfl) ?_
  exact Jb RX (by kernel_rfl) (by kernel_rfl) (by kernel_rfl)
theorem RY : mo Tryz.prog 65 (Ty.iso (cO (aH .i64) (cO (aH .i64) (cO (aH .i64) (cO (aH .i64) (bB 70 (Ty.iso (cO (aH .i64) (cO (aH .i64) (cO (aH .i64) (cO sD (bB 2 (aH .i64)))))) (fun g : Op => (g.Kind, (g.Key, (g.Arg, (g.Got, g.Vals))))))))))) (fun g : Txn => (g.Proc, (g.Status, (g.From, (g.To, g.Ops)))))) (fun x => ((Lit.int .i64 (x).Proc).wf = true) ∧ ((Lit.int .i64 (x).Status).wf = true) ∧ ((Lit.int .i64 (x).From).wf = true) ∧ ((Lit.int .i64 (x).To).wf = true) ∧ ((∀ y2 ∈ (x).Ops, ((Lit.int .i64 (y2).Kind).wf = true) ∧ ((Lit.int .i64 (y2).Key).wf = true) ∧ ((Lit.int .i64 (y2).Arg).wf = true) ∧ (True) ∧ ((∀ y ∈ (y2).Vals, (Lit.int .i64 y).wf = true) ∧ ((y2).Vals).length * 8 ≤ 140737488351232)) ∧ ((x).Ops).length * 56 ≤ 140737488351232)) := DI Qt _ (fun x => (⟨x.1, x.2.1, x.2.2.1, x.2.2.2.1, x.2.2.2.2⟩ : Txn)) (fun _ => rfl)
theorem RZ : mo Tryz.prog 23 (bB 65 (Ty.iso (cO (aH .i64) (cO (aH .i64) (cO (aH .i64) (cO (aH .i64) (bB 70 (Ty.iso (cO (aH .i64) (cO (aH .i64) (cO (aH .i64) (cO sD (bB 2 (aH .i64)))))) (fun g : Op => (g.Kind, (g.Key, (g.Arg, (g.Got, g.Vals))))))))))) (fun g : Txn => (g.Proc, (g.Status, (g.From, (g.To, g.Ops))))))) (fun x => (∀ y3 ∈ x, ((Lit.int .i64 (y3).Proc).wf = true) ∧ ((Lit.int .i64 (y3).Status).wf = true) ∧ ((Lit.int .i64 (y3).From).wf = true) ∧ ((Lit.int .i64 (y3).To).wf = true) ∧ ((∀ y2 ∈ (y3).Ops, ((Lit.int .i64 (y2).Kind).wf = true) ∧ ((Lit.int .i64 (y2).Key).wf = true) ∧ ((Lit.int .i64 (y2).Arg).wf = true) ∧ (True) ∧ ((∀ y ∈ (y2).Vals, (Lit.int .i64 y).wf = true) ∧ ((y2).Vals).length * 8 ≤ 140737488351232)) ∧ ((y3).Ops).length * 56 ≤ 140737488351232)) ∧ (x).length * 56 ≤ 140737488351232) := yP Tryz.underlying23 RY (by kernel_rfl) (by decide) (by kernel_rfl)
theorem Qu : mo Tryz.prog 25 (cO (bB 9 jq) (bB 65 (Ty.iso (cO (aH .i64) (cO (aH .i64) (cO (aH .i64) (cO (aH .i64) (bB 70 (Ty.iso (cO (aH .i64) (cO (aH .i64) (cO (aH .i64) (cO sD (bB 2 (aH .i64)))))) (fun g : Op => (g.Kind, (g.Key, (g.Arg, (g.Got, g.Vals))))))))))) (fun g : Txn => (g.Proc, (g.Status, (g.From, (g.To, g.Ops)))))))) (fun x => ((∀ y ∈ x.1, (y).size ≤ reachBytes) ∧ (x.1).length * 16 ≤ 140737488351232) ∧ ((∀ y3 ∈ x.2, ((Lit.int .i64 (y3).Proc).wf = true) ∧ ((Lit.int .i64 (y3).Status).wf = true) ∧ ((Lit.int .i64 (y3).From).wf = true) ∧ ((Lit.int .i64 (y3).To).wf = true) ∧ ((∀ y2 ∈ (y3).Ops, ((Lit.int .i64 (y2).Kind).wf = true) ∧ ((Lit.int .i64 (y2).Key).wf = true) ∧ ((Lit.int .i64 (y2).Arg).wf = true) ∧ (True) ∧ ((∀ y ∈ (y2).Vals, (Lit.int .i64 y).wf = true) ∧ ((y2).Vals).length * 8 ≤ 140737488351232)) ∧ ((y3).Ops).length * 56 ≤ 140737488351232)) ∧ (x.2).length * 56 ≤ 140737488351232)) := by
  refine yO Tryz.underlying25 ?_ (by kernel_rfl)
  show yN _ [_, _] _ _ _
  refine vD (G' := fun x : (List Txn) => ((∀ y3 ∈ x, ((Lit.int .i64 (y3).Proc).wf = true) ∧ ((Lit.int .i64 (y3).Status).wf = true) ∧ ((Lit.int .i64 (y3).From).wf = true) ∧ ((Lit.int .i64 (y3).To).wf = true) ∧ ((∀ y2 ∈ (y3).Ops, ((Lit.int .i64 (y2).Kind).wf = true) ∧ ((Lit.int .i64 (y2).Key).wf = true) ∧ ((Lit.int .i64 (y2).Arg).wf = true) ∧ (True) ∧ ((∀ y ∈ (y2).Vals, (Lit.int .i64 y).wf = true) ∧ ((y2).Vals).length * 8 ≤ 140737488351232)) ∧ ((y3).Ops).length * 56 ≤ 140737488351232)) ∧ (x).length * 56 ≤ 140737488351232)) RS (by kernel_rfl) (by kernel_rfl) (by kernel_rfl) ?_
  exact Jb RZ (by kernel_rfl) (by kernel_rfl) (by kernel_rfl)
theorem Sa : mo Tryz.prog 25 (Ty.iso (cO (bB 9 jq) (bB 65 (Ty.iso (cO (aH .i64) (cO (aH .i64) (cO (aH .i64) (cO (aH .i64) (bB 70 (Ty.iso (cO (aH .i64) (cO (aH .i64) (cO (aH .i64) (cO sD (bB 2 (aH .i64)))))) (fun g : Op => (g.Kind, (g.Key, (g.Arg, (g.Got, g.Vals))))))))))) (fun g : Txn => (g.Proc, (g.Status, (g.From, (g.To, g.Ops)))))))) (fun g : History => (g.Keys, g.Txns))) (fun x => ((∀ y ∈ (x).Keys, (y).size ≤ reachBytes) ∧ ((x).Keys).length * 16 ≤ 140737488351232) ∧ ((∀ y3 ∈ (x).Txns, ((Lit.int .i64 (y3).Proc).wf = true) ∧ ((Lit.int .i64 (y3).Status).wf = true) ∧ ((Lit.int .i64 (y3).From).wf = true) ∧ ((Lit.int .i64 (y3).To).wf = true) ∧ ((∀ y2 ∈ (y3).Ops, ((Lit.int .i64 (y2).Kind).wf = true) ∧ ((Lit.int .i64 (y2).Key).wf = true) ∧ ((Lit.int .i64 (y2).Arg).wf = true) ∧ (True) ∧ ((∀ y ∈ (y2).Vals, (Lit.int .i64 y).wf = true) ∧ ((y2).Vals).length * 8 ≤ 140737488351232)) ∧ ((y3).Ops).length * 56 ≤ 140737488351232)) ∧ ((x).Txns).length * 56 ≤ 140737488351232)) := DI Qu _ (fun x => (⟨x.1, x.2⟩ : History)) (fun _ => rfl)
theorem readable : ∀ t ∈ Tryz.f5.params.toList, Tryz.prog.readableRec t = true ∧ t < Tryz.prog.types.size := by
  rw [Tryz.params5]
  intro t ht
  have ht : t ∈ [25] := ht
  simp only [List.mem_cons, List.not_mem_nil, or_false] at ht
  rcases ht with rfl <;> exact ⟨by kernel_rfl, of_decide_eq_true (by kernel_rfl)⟩
theorem contract (H : Type) (enc : TypeId × Value → H) (W : World) (base : Nat) (args : Array Value) (ds gs : List (DataW H)) (before : List MemPlace)
    (hval : ∀ (j : Nat) t v, Tryz.f5.params[j]? = some t → args[j]? = some v → Value.okWide Tryz.prog W .any base t v)
    (hW : DataW.Whole enc Tryz.prog Tryz.f5.params.toList Rows.blameGoesSpec.vars false W args.toList ds gs before)
    (hZ : (DataW.weightsEach Tryz.prog (Tryz.f5.params.toList ++ (OpenSpec.ofChange Rows.blameGoesSpec).bare.plain.varTypes Tryz.prog) (ds ++ gs)).all (· ≤ reachBytes) = true) (hL : laidMetH Tryz.prog Rows.blameGoesRow.laid W) :
    Calls Tryz.prog 5 args W fun e W' => ∃ v, e = .returned v ∧ Rows.blameGoesSpec.post enc Tryz.prog Tryz.f5 false true false false W args v W' := by
  have hW' := hW
  obtain ⟨p, q, hA0, hV, hpq, hfz, hnd⟩ := hW
  have hA : DataW.TrodAll enc Tryz.prog W 0 (fun _ => true) true Tryz.f5.params.toList args.toList ds p := hA0
  rw [Tryz.params5] at hA hval hZ
  obtain ⟨v0, vs0, d0, ds0, p0, q0, hargs0, hds0, hpp0, h0, r0⟩ := trodAll_cons hA
  obtain ⟨e0, e1, e2⟩ := trodAll_nil r0
  obtain ⟨rfl, rfl⟩ := trodVars_none hV
  subst hds0 e0 e1
  have hargs : args = #[v0] := by
    cases args with
    | mk l =>
      have hl : l = [v0] := by rw [show l = _ from hargs0]
      rw [hl]
  subst hargs
  have hZ' := fun x hx => of_decide_eq_true (List.all_eq_true.1 hZ x hx)
  clear hZ
  have w0 : ∀ n ∈ DataW.weights Tryz.prog 25 d0, n ≤ reachBytes := fun n hm => hZ' n (List.mem_append_left _ hm)
  obtain ⟨x0, ar0, rfl, k0, g0⟩ := Ma Sa Tryz.underlying25 (hval 0 25 v0 rfl rfl) h0 w0
  obtain ⟨l0⟩ := ar0
  have k0 : Ty.rd _ _ _ l0 := k0
  obtain ⟨_, _, rfl, ⟨As1, cs1, rfl, ls1, rs1⟩, ⟨As2, cs2, rfl, ls2, rs2⟩⟩ := k0
  have H := GK x0 g0
  refine (ve x0 As1 cs1 As2 cs2 (aT W) W (Inv.start W)  rs1 ls1 rs2 ls2 true H).mono fun e W'' hh => ?_
  obtain ⟨rfl, hI⟩ := hh
  exact ⟨_, rfl, Qz (by kernel_rfl) hW' rfl rfl Tryz.underlying4 readable rfl rfl rfl hI.below⟩
noncomputable def DC (os : Os) : World := World.holding Tryz.prog os ⟨#[], #[], []⟩
theorem Qv (os : Os) : laidMet Tryz.prog Rows.blameGoesRow.laid ((DC os).forCall (fun _ _ => 0) ⟨#[], #[(.agg #[.slice none 0 0, .slice none 0 0] : Value)], []⟩).memory := laidMet_of_run' 8 (by kernel_rfl) (by kernel_rfl)
theorem reads (os : Os) {H : Type} (enc : TypeId × Value → H) : ∃ places, DataW.whole enc Tryz.prog ((DC os).forCall (fun _ _ => 0) ⟨#[], #[(.agg #[.slice none 0 0, .slice none 0 0] : Value)], []⟩).memory Tryz.f5.params.toList Rows.blameGoesSpec.vars false (#[(.agg #[.slice none 0 0, .slice none 0 0] : Value)]).toList 8 = some ([.agg [.nil, .nil]], [], places) :=
  ⟨[], by kernel_rfl⟩
theorem lifted (os : Os) (started : os.Started) (H : Type) (enc : TypeId × Value → H) (F : Stop.Interp) :
    ReturnsInHanded {} Tryz.checked os 5 .any ((OpenSpec.ofChange Rows.blameGoesSpec).preRow enc Tryz.prog Tryz.f5 Rows.blameGoesRow.domain false Rows.blameGoesRow.laid) (((OpenSpec.ofChange Rows.blameGoesSpec).at F).post enc Tryz.prog Tryz.f5 false true false false) := by
  obtain ⟨places, hx⟩ := reads os enc
  refine returnsInHanded_of_row (C := Tryz.checked) (s := OpenSpec.ofChange Rows.blameGoesSpec) own started (by kernel_rfl) Tryz.func5
    (witness_row_at (enc := enc) (C := Tryz.checked) false (DC os) #[(.agg #[.slice none 0 0, .slice none 0 0] : Value)] rfl (by kernel_rfl) (by kernel_rfl) (by kernel_rfl)
      (OpenSpec.preRow_of_cond 8 hx (by kernel_rfl) (fun k hk => by cases hk) (by kernel_rfl) (Qv os))) ?_
  intro W base args ds gs before hval hW _ hcond hZ hL _ _
  exact contract H enc W base args ds gs before hval hW hZ hL
theorem said : Rows.BlameGoesSaid :=
  OpenClaim.holds_of_cond 5 Tryz.f5 rfl rfl rfl rfl rfl rfl rfl ⟨rfl, rfl, rfl, rfl, rfl⟩ rfl rfl rfl rfl rfl (by kernel_rfl) Tryz.func5 (by kernel_rfl)
    (of_decide_eq_true (by kernel_rfl)) (by unfold Func.isWrapper; first | (rw [if_pos (by decide +kernel)]; kernel_rfl) | (rw [if_neg (by decide +kernel)]; exact ⟨rfl, rfl⟩))
    (fun os started H enc _ F => by rw [OpenClaim.pre_eq_preRow]; exact lifted os started H enc F)
end Go.Proofs.YtfpeabnehpclnaaGreatT
namespace Go.Proofs.YtfpeabnehpclnaaGreat
theorem blameGoes_holds : Rows.BlameGoesSaid := YtfpeabnehpclnaaGreatT.said
end Go.Proofs.YtfpeabnehpclnaaGreat
#print axioms Go.Proofs.YtfpeabnehpclnaaGreat.blameGoes_holds
