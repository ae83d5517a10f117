/- The law RingCertified: the program's row, and its card. No condition is added. -/
import Derived.Test.YtncapkloanfmnaaDoorCards
import Derived.Test.YtncapkloanfmnaaDoorTie
import Derived.WalkKit
import Derived.ProofKit
import Derived.OpenShut
import Derived.Deep.DeepHandedRow
import Derived.Lib.LaidTab
import Derived.SevenTiedAt
import Derived.Test.YtncapkloanfmnaaDoorY
import Derived.Test.YtncapkloanfmnaaDoorTW1
import Derived.Test.YtncapkloanfmnaaDoorTW2
import Derived.Test.YtncapkloanfmnaaDoorTPRQ
namespace Go.Proofs.YtncapkloanfmnaaDoorT
open Go Go.Proofs Go.Proofs.YtncapkloanfmnaaDoorE Go.ChangeShapes Go.WideShapes Go.ChangeAt Go.RowKit Go.Proofs.YtncapkloanfmnaaDoor
set_option linter.unusedVariables false
set_option linter.unusedSimpArgs false
set_option maxHeartbeats 0
set_option maxRecDepth 100000
theorem own : ownKnob Tryd.prog.godebug = none := by kernel_rfl
theorem opens3 : Opens Tryd.prog 3 (tInt .i64) (fun x => (Lit.int .i64 x).wf = true) := opens_int Tryd.underlying3
theorem opens40T : Opens Tryd.prog 40 (tPair (tInt .i64) (tPair (tInt .i64) (tPair (tInt .i64) (tInt .i64)))) (fun x => ((Lit.int .i64 x.1).wf = true) ∧ ((Lit.int .i64 x.2.1).wf = true) ∧ ((Lit.int .i64 x.2.2.1).wf = true) ∧ ((Lit.int .i64 x.2.2.2).wf = true)) := by
  refine opens_struct Tryd.underlying40 ?_ (by kernel_rfl)
  show OpensFs _ [_, _, _, _] _ _ _
  refine fs_cons (G' := fun x : Int × Int × Int => ((Lit.int .i64 x.1).wf = true) ∧ ((Lit.int .i64 x.2.1).wf = true) ∧ ((Lit.int .i64 x.2.2).wf = true)) opens3 (by kernel_rfl) (by kernel_rfl) (by kernel_rfl) ?_
  refine fs_cons (G' := fun x : Int × Int => ((Lit.int .i64 x.1).wf = true) ∧ ((Lit.int .i64 x.2).wf = true)) opens3 (by kernel_rfl) (by kernel_rfl) (by kernel_rfl) ?_
  refine fs_cons (G' := fun x : Int => ((Lit.int .i64 x).wf = true)) opens3 (by kernel_rfl) (by kernel_rfl) (by kernel_rfl) ?_
  exact fs_last opens3 (by kernel_rfl) (by kernel_rfl) (by kernel_rfl)
theorem opens40 : Opens Tryd.prog 40 kEdge (fun x => ((Lit.int .i64 (x).From).wf = true) ∧ ((Lit.int .i64 (x).To).wf = true) ∧ ((Lit.int .i64 (x).Kind).wf = true) ∧ ((Lit.int .i64 (x).Key).wf = true)) := opens_flat opens40T (fun x => (⟨x.1, x.2.1, x.2.2.1, x.2.2.2⟩ : Edge)) (fun H a cs h => by
  obtain ⟨_, _, rfl, h0, ⟨_, _, rfl, h1, ⟨_, _, rfl, h2, h3⟩⟩⟩ := h
  cases h0
  cases h1
  cases h2
  cases h3
  rfl) (fun a h => h)
theorem opens22 : Opens Tryd.prog 22 (tSlice 40 kEdge) (fun x => (∀ y ∈ x, ((Lit.int .i64 (y).From).wf = true) ∧ ((Lit.int .i64 (y).To).wf = true) ∧ ((Lit.int .i64 (y).Kind).wf = true) ∧ ((Lit.int .i64 (y).Key).wf = true)) ∧ (x).length * 32 ≤ 140737488351232) := opens_rows Tryd.underlying22 opens40 (by kernel_rfl) (by decide) (by kernel_rfl)
theorem opens24T : Opens Tryd.prog 24 (tPair (tInt .i64) (tSlice 40 kEdge)) (fun x => ((Lit.int .i64 x.1).wf = true) ∧ ((∀ y ∈ x.2, ((Lit.int .i64 (y).From).wf = true) ∧ ((Lit.int .i64 (y).To).wf = true) ∧ ((Lit.int .i64 (y).Kind).wf = true) ∧ ((Lit.int .i64 (y).Key).wf = true)) ∧ (x.2).length * 32 ≤ 140737488351232)) := by
  refine opens_struct Tryd.underlying24 ?_ (by kernel_rfl)
  show OpensFs _ [_, _] _ _ _
  refine fs_cons (G' := fun x : (List Edge) => ((∀ y ∈ x, ((Lit.int .i64 (y).From).wf = true) ∧ ((Lit.int .i64 (y).To).wf = true) ∧ ((Lit.int .i64 (y).Kind).wf = true) ∧ ((Lit.int .i64 (y).Key).wf = true)) ∧ (x).length * 32 ≤ 140737488351232)) opens3 (by kernel_rfl) (by kernel_rfl) (by kernel_rfl) ?_
  exact fs_last opens22 (by kernel_rfl) (by kernel_rfl) (by kernel_rfl)
theorem opens24 : Opens Tryd.prog 24 (Ty.iso (tPair (tInt .i64) (tSlice 40 kEdge)) (fun g : Graph => (g.N, g.Edges))) (fun x => ((Lit.int .i64 (x).N).wf = true) ∧ ((∀ y ∈ (x).Edges, ((Lit.int .i64 (y).From).wf = true) ∧ ((Lit.int .i64 (y).To).wf = true) ∧ ((Lit.int .i64 (y).Kind).wf = true) ∧ ((Lit.int .i64 (y).Key).wf = true)) ∧ ((x).Edges).length * 32 ≤ 140737488351232)) := opens_iso opens24T _ (fun x => (⟨x.1, x.2⟩ : Graph)) (fun _ => rfl)
theorem gTab : Tryd.prog.globalNamed "math/bits.deBruijn64tab" = some 0 := by kernel_rfl
theorem gTabType : (Tryd.prog.globals[0]?).map (·.type) = some 75 := by kernel_rfl
theorem table {W : World} (h : laidMetH Tryd.prog Rows.ringCertifiedRow.laid W) : TabM (memOf W).blk := by
  have ht : Lib.TabIs Tryd.prog W "math/bits.deBruijn64tab" .u8 [0, 1, 56, 2, 57, 49, 28, 3, 61, 58, 42, 50, 38, 29, 17, 4, 62, 47, 59, 36, 45, 43, 51, 22, 53, 39, 33, 30, 24, 18, 12, 5, 63, 55, 48, 27, 60, 41, 37, 16, 46, 35, 44, 21, 52, 32, 23, 11, 54, 26, 40, 15, 34, 20, 31, 10, 25, 14, 19, 9, 13, 8, 7, 6] :=
    Lib.tabIs_of_head (rest := []) gTab gTabType Tryd.underlying75 Tryd.underlying5 (by kernel_rfl) (by kernel_rfl) h
  refine .inr ⟨0, 0, rfl, fun j x hj => ⟨[.int .u8 x], rfl, fun i u hu => ?_⟩⟩
  have hj' : j < theTab.length := (List.getElem?_eq_some_iff.1 hj).1
  have hc := ht.cell gTab j hj'
  have hx : theTab.getD j 0 = x := by rw [List.getD_eq_getElem?_getD, hj]; rfl
  have e : i = 0 := by have := (List.getElem?_eq_some_iff.1 hu).1; simpa using this
  subst e
  cases hu
  show cellOf (hp W) 0 (0 + j * 1 + 0) = some (.int .u8 x)
  rw [← cell_hp, show 0 + j * 1 + 0 = j by omega, hc, ← hx]
  rfl
theorem readable : ∀ t ∈ Tryd.f9.params.toList, Tryd.prog.readableRec t = true ∧ t < Tryd.prog.types.size := by
  rw [Tryd.params9]
  intro t ht
  have ht : t ∈ [24, 3, 3] := ht
  simp only [List.mem_cons, List.not_mem_nil, or_false] at ht
  rcases ht with rfl | rfl | rfl <;> exact ⟨by kernel_rfl, of_decide_eq_true (by kernel_rfl)⟩
theorem contract (H : Type) (enc : TypeId × Value → H) (W : World) (base : Nat) (args : Array Value) (ds gs : List (DataW H)) (before : List MemPlace)
    (hval : ∀ (j : Nat) t v, Tryd.f9.params[j]? = some t → args[j]? = some v → Value.okWide Tryd.prog W .any base t v)
    (hW : DataW.Whole enc Tryd.prog Tryd.f9.params.toList Rows.ringCertifiedSpec.vars false W args.toList ds gs before)
    (hZ : (DataW.weightsEach Tryd.prog (Tryd.f9.params.toList ++ (OpenSpec.ofChange Rows.ringCertifiedSpec).bare.plain.varTypes Tryd.prog) (ds ++ gs)).all (· ≤ reachBytes) = true) (hL : laidMetH Tryd.prog Rows.ringCertifiedRow.laid W) :
    Calls Tryd.prog 9 args W fun e W' => ∃ v, e = .returned v ∧ Rows.ringCertifiedSpec.post enc Tryd.prog Tryd.f9 false true false false W args v W' := by
  have hW' := hW
  obtain ⟨p, q, hA0, hV, hpq, hfz, hnd⟩ := hW
  have hA : DataW.TrodAll enc Tryd.prog W 0 (fun _ => true) true Tryd.f9.params.toList args.toList ds p := hA0
  rw [Tryd.params9] at hA hval hZ
  obtain ⟨v0, vs0, d0, ds0, p0, q0, hargs0, hds0, hpp0, h0, r0⟩ := trodAll_cons hA
  obtain ⟨v1, vs1, d1, ds1, p1, q1, hargs1, hds1, hpp1, h1, r1⟩ := trodAll_cons r0
  obtain ⟨v2, vs2, d2, ds2, p2, q2, hargs2, hds2, hpp2, h2, r2⟩ := trodAll_cons r1
  obtain ⟨e0, e1, e2⟩ := trodAll_nil r2
  obtain ⟨rfl, rfl⟩ := trodVars_none hV
  subst hds0 hds1 hds2 e0 e1
  have hargs : args = #[v0, v1, v2] := by
    cases args with
    | mk l =>
      have hl : l = [v0, v1, v2] := by rw [show l = _ from hargs0, hargs1, hargs2]
      rw [hl]
  subst hargs
  have hZ' := fun x hx => of_decide_eq_true (List.all_eq_true.1 hZ x hx)
  clear hZ
  have w0 : ∀ n ∈ DataW.weights Tryd.prog 24 d0, n ≤ reachBytes := fun n hm => hZ' n (List.mem_append_left _ hm)
  have w1 : ∀ n ∈ DataW.weights Tryd.prog 3 d1, n ≤ reachBytes := fun n hm => hZ' n (List.mem_append_right _ (List.mem_append_left _ hm))
  have w2 : ∀ n ∈ DataW.weights Tryd.prog 3 d2, n ≤ reachBytes := fun n hm => hZ' n (List.mem_append_right _ (List.mem_append_right _ (List.mem_append_left _ hm)))
  obtain ⟨x0, ar0, rfl, k0, g0⟩ := arg_struct opens24 Tryd.underlying24 (hval 0 24 v0 rfl rfl) h0 w0
  obtain ⟨x1, k1, g1⟩ := arg_one opens3 (by rw [Tryd.underlying3]; intro _ h; cases h) (by rw [Tryd.underlying3]; intro _ _ h; cases h) (hval 1 3 v1 rfl rfl) h1 w1
  obtain ⟨x2, k2, g2⟩ := arg_one opens3 (by rw [Tryd.underlying3]; intro _ h; cases h) (by rw [Tryd.underlying3]; intro _ _ h; cases h) (hval 2 3 v2 rfl rfl) h2 w2
  obtain ⟨l0⟩ := ar0
  have k0 : Ty.rd _ _ _ l0 := k0
  obtain ⟨_, _, rfl, rfl, ⟨As1, cs1, rfl, ls1, rs1⟩⟩ := k0
  have e1 : v1 = _ := (List.cons.inj k1).1
  subst e1
  have e2 : v2 = _ := (List.cons.inj k2).1
  subst e2
  have H := RingCertified_law x0 x1 x2 g0 g1 g2
  refine (assizelaw07zRingCertified_calls x0 As1 cs1 x1 x2 (memOf W) W (Inv.start W) (table hL) rs1 ls1 true H).mono fun e W'' hh => ?_
  obtain ⟨rfl, hI⟩ := hh
  exact ⟨_, rfl, law_post (by kernel_rfl) hW' rfl rfl Tryd.underlying4 readable rfl rfl rfl hI.below⟩
noncomputable def laidWorld (os : Os) : World :=
  { World.holding Tryd.prog os ⟨#[], #[], []⟩ with heap := (World.holding Tryd.prog os ⟨#[], #[], []⟩).heap.modify 0 fun
      | .cells _ t frozen => .cells #[.int .u8 0, .int .u8 1, .int .u8 56, .int .u8 2, .int .u8 57, .int .u8 49, .int .u8 28, .int .u8 3, .int .u8 61, .int .u8 58, .int .u8 42, .int .u8 50, .int .u8 38, .int .u8 29, .int .u8 17, .int .u8 4, .int .u8 62, .int .u8 47, .int .u8 59, .int .u8 36, .int .u8 45, .int .u8 43, .int .u8 51, .int .u8 22, .int .u8 53, .int .u8 39, .int .u8 33, .int .u8 30, .int .u8 24, .int .u8 18, .int .u8 12, .int .u8 5, .int .u8 63, .int .u8 55, .int .u8 48, .int .u8 27, .int .u8 60, .int .u8 41, .int .u8 37, .int .u8 16, .int .u8 46, .int .u8 35, .int .u8 44, .int .u8 21, .int .u8 52, .int .u8 32, .int .u8 23, .int .u8 11, .int .u8 54, .int .u8 26, .int .u8 40, .int .u8 15, .int .u8 34, .int .u8 20, .int .u8 31, .int .u8 10, .int .u8 25, .int .u8 14, .int .u8 19, .int .u8 9, .int .u8 13, .int .u8 8, .int .u8 7, .int .u8 6] t frozen
      | o => o }
theorem laid_met (os : Os) : laidMet Tryd.prog Rows.ringCertifiedRow.laid ((laidWorld os).forCall (fun _ _ => 0) ⟨#[], #[(.agg #[.int .i64 0, .slice none 0 0] : Value), (.int .i64 0 : Value), (.int .i64 0 : Value)], []⟩).memory :=
  laidMet_of_run' 8 (by kernel_rfl) (by kernel_rfl)
theorem reads (os : Os) {H : Type} (enc : TypeId × Value → H) : ∃ places, DataW.whole enc Tryd.prog ((laidWorld os).forCall (fun _ _ => 0) ⟨#[], #[(.agg #[.int .i64 0, .slice none 0 0] : Value), (.int .i64 0 : Value), (.int .i64 0 : Value)], []⟩).memory Tryd.f9.params.toList Rows.ringCertifiedSpec.vars false (#[(.agg #[.int .i64 0, .slice none 0 0] : Value), (.int .i64 0 : Value), (.int .i64 0 : Value)]).toList 8 = some ([.agg [.lit (.int .i64 0), .nil], .lit (.int .i64 0), .lit (.int .i64 0)], [], places) :=
  ⟨[], by kernel_rfl⟩
theorem lifted (os : Os) (started : os.Started) (H : Type) (enc : TypeId × Value → H) (F : Stop.Interp) :
    ReturnsInHanded {} Tryd.checked os 9 .any ((OpenSpec.ofChange Rows.ringCertifiedSpec).preRow enc Tryd.prog Tryd.f9 Rows.ringCertifiedRow.domain false Rows.ringCertifiedRow.laid) (((OpenSpec.ofChange Rows.ringCertifiedSpec).at F).post enc Tryd.prog Tryd.f9 false true false false) := by
  obtain ⟨places, hx⟩ := reads os enc
  refine returnsInHanded_of_row (C := Tryd.checked) (s := OpenSpec.ofChange Rows.ringCertifiedSpec) own started (by kernel_rfl) Tryd.func9
    (witness_row_at (enc := enc) (C := Tryd.checked) false (laidWorld os) #[(.agg #[.int .i64 0, .slice none 0 0] : Value), (.int .i64 0 : Value), (.int .i64 0 : Value)] rfl (by kernel_rfl) (by kernel_rfl) (by kernel_rfl)
      (OpenSpec.preRow_of_cond 8 hx (by kernel_rfl) (fun k hk => by cases hk) (by kernel_rfl) (laid_met os))) ?_
  intro W base args ds gs before hval hW _ hcond hZ hL _ _
  exact contract H enc W base args ds gs before hval hW hZ hL
theorem said : Rows.RingCertifiedSaid :=
  OpenClaim.holds_of_cond 9 Tryd.f9 rfl rfl rfl rfl rfl rfl rfl ⟨rfl, rfl, rfl, rfl, rfl⟩ rfl rfl rfl rfl rfl (by kernel_rfl) Tryd.func9 (by kernel_rfl)
    (of_decide_eq_true (by kernel_rfl)) (by unfold Func.isWrapper; first | (rw [if_pos (by decide +kernel)]; kernel_rfl) | (rw [if_neg (by decide +kernel)]; exact ⟨rfl, rfl⟩))
    (fun os started H enc _ F => by rw [OpenClaim.pre_eq_preRow]; exact lifted os started H enc F)
theorem plain (f : FuncId) (fn : Func) (hf : Tryd.pinned.checked.prog.funcNamed "assize/assizelaw07.RingCertified" = some f) (hfn : Tryd.pinned.checked.prog.funcs[f]? = some fn) :
    false = Tryd.pinned.checked.prog.looks [] ∧ ∀ (j : Nat) t, fn.params[j]? = some t → Tryd.pinned.checked.prog.wantsStandIn t = false := by
  obtain rfl : f = 9 := Option.some.inj ((show Tryd.prog.funcNamed "assize/assizelaw07.RingCertified" = some 9 by kernel_rfl).symm.trans hf) |>.symm
  obtain rfl : fn = Tryd.f9 := (Option.some.inj (Tryd.func9.symm.trans hfn)).symm
  refine ⟨by kernel_rfl, fun j t ht => ?_⟩
  rw [Tryd.params9] at ht
  have ht := Array.mem_of_getElem? ht
  have ht : t ∈ [24, 3, 3] := by simpa using ht
  simp only [List.mem_cons, List.not_mem_nil, or_false] at ht
  rcases ht with rfl | rfl | rfl
  · exact (show Tryd.prog.wantsStandIn 24 = false by kernel_rfl)
  · exact (show Tryd.prog.wantsStandIn 3 = false by kernel_rfl)
  · exact (show Tryd.prog.wantsStandIn 3 = false by kernel_rfl)
theorem card : Rows.RingCertifiedCardSaid :=
  Claim7.holds_tied_plain_at .later [] _ _ _ _ said (fun _ h => by cases h) (by kernel_rfl) (fun _ h => by cases h) ringCertified_row_tie rfl ⟨rfl, rfl⟩ (by kernel_rfl) rfl plain (by kernel_rfl)
end Go.Proofs.YtncapkloanfmnaaDoorT
namespace Go.Proofs.YtncapkloanfmnaaDoor
theorem ringCertified_holds : Rows.RingCertifiedCardSaid := YtncapkloanfmnaaDoorT.card
end Go.Proofs.YtncapkloanfmnaaDoor
#print axioms Go.Proofs.YtncapkloanfmnaaDoor.ringCertified_holds
