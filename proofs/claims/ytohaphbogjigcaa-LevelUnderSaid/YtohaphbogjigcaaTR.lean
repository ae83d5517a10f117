/- The law LevelUnder: the program's row. No condition is added. -/
import Derived.Test.YtohaphbogjigcaaRows
import Derived.WalkKit
import Derived.ProofKit
import Derived.OpenShut
import Derived.Deep.DeepHandedRow
import Derived.Lib.LaidTab
import Derived.SevenTiedAt
import Derived.Test.YtohaphbogjigcaaY
import Derived.Test.YtohaphbogjigcaaTW4
import Derived.Test.YtohaphbogjigcaaTPLM
namespace Go.Proofs.YtohaphbogjigcaaT
open Go Go.Proofs Go.Proofs.YtohaphbogjigcaaE Go.ChangeShapes Go.WideShapes Go.ChangeAt Go.RowKit Go.Proofs.Ytohaphbogjigcaa
set_option linter.unusedVariables false
set_option linter.unusedSimpArgs false
set_option maxHeartbeats 0
set_option maxRecDepth 100000
theorem own : ownKnob Try.prog.godebug = none := by kernel_rfl
theorem opens4 : Opens Try.prog 4 tBool (fun x => True) := opens_bool Try.underlying4
theorem opens34 : Opens Try.prog 34 (tSlice 4 tBool) (fun x => (∀ y ∈ x, True) ∧ (x).length * 1 ≤ 140737488351232) := opens_rows Try.underlying34 opens4 (by kernel_rfl) (by decide) (by kernel_rfl)
theorem readable : ∀ t ∈ Try.f6.params.toList, Try.prog.readableRec t = true ∧ t < Try.prog.types.size := by
  rw [Try.params6]
  intro t ht
  have ht : t ∈ [34] := ht
  simp only [List.mem_cons, List.not_mem_nil, or_false] at ht
  rcases ht with rfl <;> exact ⟨by kernel_rfl, of_decide_eq_true (by kernel_rfl)⟩
theorem contract (H : Type) (enc : TypeId × Value → H) (W : World) (base : Nat) (args : Array Value) (ds gs : List (DataW H)) (before : List MemPlace)
    (hval : ∀ (j : Nat) t v, Try.f6.params[j]? = some t → args[j]? = some v → Value.okWide Try.prog W .any base t v)
    (hW : DataW.Whole enc Try.prog Try.f6.params.toList Rows.levelUnderSpec.vars false W args.toList ds gs before)
    (hZ : (DataW.weightsEach Try.prog (Try.f6.params.toList ++ (OpenSpec.ofChange Rows.levelUnderSpec).bare.plain.varTypes Try.prog) (ds ++ gs)).all (· ≤ reachBytes) = true) (hL : laidMetH Try.prog Rows.levelUnderRow.laid W) :
    Calls Try.prog 6 args W fun e W' => ∃ v, e = .returned v ∧ Rows.levelUnderSpec.post enc Try.prog Try.f6 false true false false W args v W' := by
  have hW' := hW
  obtain ⟨p, q, hA0, hV, hpq, hfz, hnd⟩ := hW
  have hA : DataW.TrodAll enc Try.prog W 0 (fun _ => true) true Try.f6.params.toList args.toList ds p := hA0
  rw [Try.params6] at hA hval hZ
  obtain ⟨v0, vs0, d0, ds0, p0, q0, hargs0, hds0, hpp0, h0, r0⟩ := trodAll_cons hA
  obtain ⟨e0, e1, e2⟩ := trodAll_nil r0
  obtain ⟨rfl, rfl⟩ := trodVars_none hV
  subst hds0 e0 e1
  have hargs : args = #[v0] := by
    cases args with
    | mk l =>
      have hl : l = [v0] := by rw [show l = _ from hargs0]
      rw [hl]
  subst hargs
  have hZ' := fun x hx => of_decide_eq_true (List.all_eq_true.1 hZ x hx)
  clear hZ
  have w0 : ∀ n ∈ DataW.weights Try.prog 34 d0, n ≤ reachBytes := fun n hm => hZ' n (List.mem_append_left _ hm)
  obtain ⟨x0, k0, g0⟩ := arg_one opens34 (by rw [Try.underlying34]; intro _ h; cases h) (by rw [Try.underlying34]; intro _ _ h; cases h) (hval 0 34 v0 rfl rfl) h0 w0
  obtain ⟨As1, cs1, e0, ls1, rs1⟩ := k0
  have e0 : v0 = _ := (List.cons.inj e0).1
  subst e0
  have H := LevelUnder_law x0 g0
  refine (assizelaw13zLevelUnder_calls As1 cs1 x0 (memOf W) W (Inv.start W)  rs1 ls1 true H).mono fun e W'' hh => ?_
  obtain ⟨rfl, hI⟩ := hh
  exact ⟨_, rfl, law_post (by kernel_rfl) hW' rfl rfl Try.underlying4 readable rfl rfl rfl hI.below⟩
noncomputable def laidWorld (os : Os) : World := World.holding Try.prog os ⟨#[], #[], []⟩
theorem laid_met (os : Os) : laidMet Try.prog Rows.levelUnderRow.laid ((laidWorld os).forCall (fun _ _ => 0) ⟨#[], #[(.slice none 0 0 : Value)], []⟩).memory := laidMet_of_run' 8 (by kernel_rfl) (by kernel_rfl)
theorem reads (os : Os) {H : Type} (enc : TypeId × Value → H) : ∃ places, DataW.whole enc Try.prog ((laidWorld os).forCall (fun _ _ => 0) ⟨#[], #[(.slice none 0 0 : Value)], []⟩).memory Try.f6.params.toList Rows.levelUnderSpec.vars false (#[(.slice none 0 0 : Value)]).toList 8 = some ([.nil], [], places) :=
  ⟨[], by kernel_rfl⟩
theorem lifted (os : Os) (started : os.Started) (H : Type) (enc : TypeId × Value → H) (F : Stop.Interp) :
    ReturnsInHanded {} Try.checked os 6 .any ((OpenSpec.ofChange Rows.levelUnderSpec).preRow enc Try.prog Try.f6 Rows.levelUnderRow.domain false Rows.levelUnderRow.laid) (((OpenSpec.ofChange Rows.levelUnderSpec).at F).post enc Try.prog Try.f6 false true false false) := by
  obtain ⟨places, hx⟩ := reads os enc
  refine returnsInHanded_of_row (C := Try.checked) (s := OpenSpec.ofChange Rows.levelUnderSpec) own started (by kernel_rfl) Try.func6
    (witness_row_at (enc := enc) (C := Try.checked) false (laidWorld os) #[(.slice none 0 0 : Value)] rfl (by kernel_rfl) (by kernel_rfl) (by kernel_rfl)
      (OpenSpec.preRow_of_cond 8 hx (by kernel_rfl) (fun k hk => by cases hk) (by kernel_rfl) (laid_met os))) ?_
  intro W base args ds gs before hval hW _ hcond hZ hL _ _
  exact contract H enc W base args ds gs before hval hW hZ hL
theorem said : Rows.LevelUnderSaid :=
  OpenClaim.holds_of_cond 6 Try.f6 rfl rfl rfl rfl rfl rfl rfl ⟨rfl, rfl, rfl, rfl, rfl⟩ rfl rfl rfl rfl rfl (by kernel_rfl) Try.func6 (by kernel_rfl)
    (of_decide_eq_true (by kernel_rfl)) (by unfold Func.isWrapper; first | (rw [if_pos (by decide +kernel)]; kernel_rfl) | (rw [if_neg (by decide +kernel)]; exact ⟨rfl, rfl⟩))
    (fun os started H enc _ F => by rw [OpenClaim.pre_eq_preRow]; exact lifted os started H enc F)
end Go.Proofs.YtohaphbogjigcaaT
namespace Go.Proofs.Ytohaphbogjigcaa
theorem levelUnder_holds : Rows.LevelUnderSaid := YtohaphbogjigcaaT.said
end Go.Proofs.Ytohaphbogjigcaa
#print axioms Go.Proofs.Ytohaphbogjigcaa.levelUnder_holds
