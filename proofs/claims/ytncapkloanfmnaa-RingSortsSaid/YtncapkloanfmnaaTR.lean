/- The law RingSorts: the program's row. No condition is added. -/
import Derived.Test.YtncapkloanfmnaaRows
import Derived.WalkKit
import Derived.ProofKit
import Derived.OpenShut
import Derived.Deep.DeepHandedRow
import Derived.Lib.LaidTab
import Derived.SevenTiedAt
import Derived.Test.YtncapkloanfmnaaY
import Derived.Test.YtncapkloanfmnaaTW1
import Derived.Test.YtncapkloanfmnaaTW2
import Derived.Test.YtncapkloanfmnaaTW3
import Derived.Test.YtncapkloanfmnaaTPRP
namespace Go.Proofs.YtncapkloanfmnaaT
open Go Go.Proofs Go.Proofs.YtncapkloanfmnaaE Go.ChangeShapes Go.WideShapes Go.ChangeAt Go.RowKit Go.Proofs.Ytncapkloanfmnaa
set_option linter.unusedVariables false
set_option linter.unusedSimpArgs false
set_option maxHeartbeats 0
set_option maxRecDepth 100000
theorem own : ownKnob Try.prog.godebug = none := by kernel_rfl
theorem opens3 : Opens Try.prog 3 (tInt .i64) (fun x => (Lit.int .i64 x).wf = true) := opens_int Try.underlying3
theorem opens41T : Opens Try.prog 41 (tPair (tInt .i64) (tPair (tInt .i64) (tPair (tInt .i64) (tInt .i64)))) (fun x => ((Lit.int .i64 x.1).wf = true) ∧ ((Lit.int .i64 x.2.1).wf = true) ∧ ((Lit.int .i64 x.2.2.1).wf = true) ∧ ((Lit.int .i64 x.2.2.2).wf = true)) := by
  refine opens_struct Try.underlying41 ?_ (by kernel_rfl)
  show OpensFs _ [_, _, _, _] _ _ _
  refine fs_cons (G' := fun x : Int × Int × Int => ((Lit.int .i64 x.1).wf = true) ∧ ((Lit.int .i64 x.2.1).wf = true) ∧ ((Lit.int .i64 x.2.2).wf = true)) opens3 (by kernel_rfl) (by kernel_rfl) (by kernel_rfl) ?_
  refine fs_cons (G' := fun x : Int × Int => ((Lit.int .i64 x.1).wf = true) ∧ ((Lit.int .i64 x.2).wf = true)) opens3 (by kernel_rfl) (by kernel_rfl) (by kernel_rfl) ?_
  refine fs_cons (G' := fun x : Int => ((Lit.int .i64 x).wf = true)) opens3 (by kernel_rfl) (by kernel_rfl) (by kernel_rfl) ?_
  exact fs_last opens3 (by kernel_rfl) (by kernel_rfl) (by kernel_rfl)
theorem opens41 : Opens Try.prog 41 kEdge (fun x => ((Lit.int .i64 (x).From).wf = true) ∧ ((Lit.int .i64 (x).To).wf = true) ∧ ((Lit.int .i64 (x).Kind).wf = true) ∧ ((Lit.int .i64 (x).Key).wf = true)) := opens_flat opens41T (fun x => (⟨x.1, x.2.1, x.2.2.1, x.2.2.2⟩ : Edge)) (fun H a cs h => by
  obtain ⟨_, _, rfl, h0, ⟨_, _, rfl, h1, ⟨_, _, rfl, h2, h3⟩⟩⟩ := h
  cases h0
  cases h1
  cases h2
  cases h3
  rfl) (fun a h => h)
theorem opens22 : Opens Try.prog 22 (tSlice 41 kEdge) (fun x => (∀ y ∈ x, ((Lit.int .i64 (y).From).wf = true) ∧ ((Lit.int .i64 (y).To).wf = true) ∧ ((Lit.int .i64 (y).Kind).wf = true) ∧ ((Lit.int .i64 (y).Key).wf = true)) ∧ (x).length * 32 ≤ 140737488351232) := opens_rows Try.underlying22 opens41 (by kernel_rfl) (by decide) (by kernel_rfl)
theorem opens24T : Opens Try.prog 24 (tPair (tInt .i64) (tSlice 41 kEdge)) (fun x => ((Lit.int .i64 x.1).wf = true) ∧ ((∀ y ∈ x.2, ((Lit.int .i64 (y).From).wf = true) ∧ ((Lit.int .i64 (y).To).wf = true) ∧ ((Lit.int .i64 (y).Kind).wf = true) ∧ ((Lit.int .i64 (y).Key).wf = true)) ∧ (x.2).length * 32 ≤ 140737488351232)) := by
  refine opens_struct Try.underlying24 ?_ (by kernel_rfl)
  show OpensFs _ [_, _] _ _ _
  refine fs_cons (G' := fun x : (List Edge) => ((∀ y ∈ x, ((Lit.int .i64 (y).From).wf = true) ∧ ((Lit.int .i64 (y).To).wf = true) ∧ ((Lit.int .i64 (y).Kind).wf = true) ∧ ((Lit.int .i64 (y).Key).wf = true)) ∧ (x).length * 32 ≤ 140737488351232)) opens3 (by kernel_rfl) (by kernel_rfl) (by kernel_rfl) ?_
  exact fs_last opens22 (by kernel_rfl) (by kernel_rfl) (by kernel_rfl)
theorem opens24 : Opens Try.prog 24 (Ty.iso (tPair (tInt .i64) (tSlice 41 kEdge)) (fun g : Graph => (g.N, g.Edges))) (fun x => ((Lit.int .i64 (x).N).wf = true) ∧ ((∀ y ∈ (x).Edges, ((Lit.int .i64 (y).From).wf = true) ∧ ((Lit.int .i64 (y).To).wf = true) ∧ ((Lit.int .i64 (y).Kind).wf = true) ∧ ((Lit.int .i64 (y).Key).wf = true)) ∧ ((x).Edges).length * 32 ≤ 140737488351232)) := opens_iso opens24T _ (fun x => (⟨x.1, x.2⟩ : Graph)) (fun _ => rfl)
theorem readable : ∀ t ∈ Try.f6.params.toList, Try.prog.readableRec t = true ∧ t < Try.prog.types.size := by
  rw [Try.params6]
  intro t ht
  have ht : t ∈ [24, 3, 3] := ht
  simp only [List.mem_cons, List.not_mem_nil, or_false] at ht
  rcases ht with rfl | rfl | rfl <;> exact ⟨by kernel_rfl, of_decide_eq_true (by kernel_rfl)⟩
theorem contract (H : Type) (enc : TypeId × Value → H) (W : World) (base : Nat) (args : Array Value) (ds gs : List (DataW H)) (before : List MemPlace)
    (hval : ∀ (j : Nat) t v, Try.f6.params[j]? = some t → args[j]? = some v → Value.okWide Try.prog W .any base t v)
    (hW : DataW.Whole enc Try.prog Try.f6.params.toList Rows.ringSortsSpec.vars false W args.toList ds gs before)
    (hZ : (DataW.weightsEach Try.prog (Try.f6.params.toList ++ (OpenSpec.ofChange Rows.ringSortsSpec).bare.plain.varTypes Try.prog) (ds ++ gs)).all (· ≤ reachBytes) = true) (hL : laidMetH Try.prog Rows.ringSortsRow.laid W) :
    Calls Try.prog 6 args W fun e W' => ∃ v, e = .returned v ∧ Rows.ringSortsSpec.post enc Try.prog Try.f6 false true false false W args v W' := by
  have hW' := hW
  obtain ⟨p, q, hA0, hV, hpq, hfz, hnd⟩ := hW
  have hA : DataW.TrodAll enc Try.prog W 0 (fun _ => true) true Try.f6.params.toList args.toList ds p := hA0
  rw [Try.params6] at hA hval hZ
  obtain ⟨v0, vs0, d0, ds0, p0, q0, hargs0, hds0, hpp0, h0, r0⟩ := trodAll_cons hA
  obtain ⟨v1, vs1, d1, ds1, p1, q1, hargs1, hds1, hpp1, h1, r1⟩ := trodAll_cons r0
  obtain ⟨v2, vs2, d2, ds2, p2, q2, hargs2, hds2, hpp2, h2, r2⟩ := trodAll_cons r1
  obtain ⟨e0, e1, e2⟩ := trodAll_nil r2
  obtain ⟨rfl, rfl⟩ := trodVars_none hV
  subst hds0 hds1 hds2 e0 e1
  have hargs : args = #[v0, v1, v2] := by
    cases args with
    | mk l =>
      have hl : l = [v0, v1, v2] := by rw [show l = _ from hargs0, hargs1, hargs2]
      rw [hl]
  subst hargs
  have hZ' := fun x hx => of_decide_eq_true (List.all_eq_true.1 hZ x hx)
  clear hZ
  have w0 : ∀ n ∈ DataW.weights Try.prog 24 d0, n ≤ reachBytes := fun n hm => hZ' n (List.mem_append_left _ hm)
  have w1 : ∀ n ∈ DataW.weights Try.prog 3 d1, n ≤ reachBytes := fun n hm => hZ' n (List.mem_append_right _ (List.mem_append_left _ hm))
  have w2 : ∀ n ∈ DataW.weights Try.prog 3 d2, n ≤ reachBytes := fun n hm => hZ' n (List.mem_append_right _ (List.mem_append_right _ (List.mem_append_left _ hm)))
  obtain ⟨x0, ar0, rfl, k0, g0⟩ := arg_struct opens24 Try.underlying24 (hval 0 24 v0 rfl rfl) h0 w0
  obtain ⟨x1, k1, g1⟩ := arg_one opens3 (by rw [Try.underlying3]; intro _ h; cases h) (by rw [Try.underlying3]; intro _ _ h; cases h) (hval 1 3 v1 rfl rfl) h1 w1
  obtain ⟨x2, k2, g2⟩ := arg_one opens3 (by rw [Try.underlying3]; intro _ h; cases h) (by rw [Try.underlying3]; intro _ _ h; cases h) (hval 2 3 v2 rfl rfl) h2 w2
  obtain ⟨l0⟩ := ar0
  have k0 : Ty.rd _ _ _ l0 := k0
  obtain ⟨_, _, rfl, rfl, ⟨As1, cs1, rfl, ls1, rs1⟩⟩ := k0
  have e1 : v1 = _ := (List.cons.inj k1).1
  subst e1
  have e2 : v2 = _ := (List.cons.inj k2).1
  subst e2
  have H := RingSorts_law x0 x1 x2 g0 g1 g2
  refine (assizelaw07zRingSorts_calls x0 As1 cs1 x1 x2 (memOf W) W (Inv.start W)  rs1 ls1 true H).mono fun e W'' hh => ?_
  obtain ⟨rfl, hI⟩ := hh
  exact ⟨_, rfl, law_post (by kernel_rfl) hW' rfl rfl Try.underlying4 readable rfl rfl rfl hI.below⟩
noncomputable def laidWorld (os : Os) : World := World.holding Try.prog os ⟨#[], #[], []⟩
theorem laid_met (os : Os) : laidMet Try.prog Rows.ringSortsRow.laid ((laidWorld os).forCall (fun _ _ => 0) ⟨#[], #[(.agg #[.int .i64 0, .slice none 0 0] : Value), (.int .i64 0 : Value), (.int .i64 0 : Value)], []⟩).memory := laidMet_of_run' 8 (by kernel_rfl) (by kernel_rfl)
theorem reads (os : Os) {H : Type} (enc : TypeId × Value → H) : ∃ places, DataW.whole enc Try.prog ((laidWorld os).forCall (fun _ _ => 0) ⟨#[], #[(.agg #[.int .i64 0, .slice none 0 0] : Value), (.int .i64 0 : Value), (.int .i64 0 : Value)], []⟩).memory Try.f6.params.toList Rows.ringSortsSpec.vars false (#[(.agg #[.int .i64 0, .slice none 0 0] : Value), (.int .i64 0 : Value), (.int .i64 0 : Value)]).toList 8 = some ([.agg [.lit (.int .i64 0), .nil], .lit (.int .i64 0), .lit (.int .i64 0)], [], places) :=
  ⟨[], by kernel_rfl⟩
theorem lifted (os : Os) (started : os.Started) (H : Type) (enc : TypeId × Value → H) (F : Stop.Interp) :
    ReturnsInHanded {} Try.checked os 6 .any ((OpenSpec.ofChange Rows.ringSortsSpec).preRow enc Try.prog Try.f6 Rows.ringSortsRow.domain false Rows.ringSortsRow.laid) (((OpenSpec.ofChange Rows.ringSortsSpec).at F).post enc Try.prog Try.f6 false true false false) := by
  obtain ⟨places, hx⟩ := reads os enc
  refine returnsInHanded_of_row (C := Try.checked) (s := OpenSpec.ofChange Rows.ringSortsSpec) own started (by kernel_rfl) Try.func6
    (witness_row_at (enc := enc) (C := Try.checked) false (laidWorld os) #[(.agg #[.int .i64 0, .slice none 0 0] : Value), (.int .i64 0 : Value), (.int .i64 0 : Value)] rfl (by kernel_rfl) (by kernel_rfl) (by kernel_rfl)
      (OpenSpec.preRow_of_cond 8 hx (by kernel_rfl) (fun k hk => by cases hk) (by kernel_rfl) (laid_met os))) ?_
  intro W base args ds gs before hval hW _ hcond hZ hL _ _
  exact contract H enc W base args ds gs before hval hW hZ hL
theorem said : Rows.RingSortsSaid :=
  OpenClaim.holds_of_cond 6 Try.f6 rfl rfl rfl rfl rfl rfl rfl ⟨rfl, rfl, rfl, rfl, rfl⟩ rfl rfl rfl rfl rfl (by kernel_rfl) Try.func6 (by kernel_rfl)
    (of_decide_eq_true (by kernel_rfl)) (by unfold Func.isWrapper; first | (rw [if_pos (by decide +kernel)]; kernel_rfl) | (rw [if_neg (by decide +kernel)]; exact ⟨rfl, rfl⟩))
    (fun os started H enc _ F => by rw [OpenClaim.pre_eq_preRow]; exact lifted os started H enc F)
end Go.Proofs.YtncapkloanfmnaaT
namespace Go.Proofs.Ytncapkloanfmnaa
theorem ringSorts_holds : Rows.RingSortsSaid := YtncapkloanfmnaaT.said
end Go.Proofs.Ytncapkloanfmnaa
#print axioms Go.Proofs.Ytncapkloanfmnaa.ringSorts_holds
