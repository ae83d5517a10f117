/- The walks, part 3: each call computes its plain function. -/
import Derived.Test.YtnlkggppokcmfaaTW2
import Derived.Test.YtnlkggppokcmfaaProg
namespace Go.Proofs.YtnlkggppokcmfaaT
open Go Go.Proofs Go.Proofs.YtnlkggppokcmfaaE
set_option linter.unusedVariables false
set_option linter.unusedSimpArgs false
set_option maxHeartbeats 0
set_option maxRecDepth 4096
theorem enter10 (a : Array Value) : Sem.pureRun Try.prog (callFunc 10 a) = some (.enter 10 a) := by kernel_rfl
theorem assizelaw10zalive_calls  (M : Mem) (w : World) (hI : Inv M w []) (r : Bool) (H : assizelaw10zalive = some r) :
    Calls Try.prog 10 #[] w fun e w' => e = .returned (vB r) ∧ Inv M w' [] := by
  refine cg Try.func10 ?_
  intro cs
  unfold assizelaw10zalive at H
  refine go_seq (rp 1 (go_seq (r_in (oe 0 rfl ?_))))
  refine e_partsS 22 9 1 _ _ _ #[.string (⟨#[120]⟩ : ByteArray)] [.string (⟨#[120]⟩ : ByteArray)] rfl rfl rfl rfl (by kernel_rfl) (by kernel_rfl) (by kernel_rfl) (by kernel_rfl) hI ?_
  clear hI
  intro b12 _ hs13 hI
  replace hI := hI.asrow (k := tStr) (xs := ([(⟨#[120]⟩ : ByteArray)] : List ByteArray)) (cs := [.string (⟨#[120]⟩ : ByteArray)]) (R := []) (L' := []) 1 0 [] [] (by decide) rfl (mks_cons (mk_flat (k := tStr) (⟨#[120]⟩ : ByteArray) [.string (⟨#[120]⟩ : ByteArray)] rfl) mks_nil) rfl rfl (by kernel_rfl)
  refine bp 1 1 (oe 2 rfl ?_)
  refine e_partsS 39 64 1 _ _ _ #[vI 1, vI 0, vI 5, vB false, vS none 0 0] [vI 1, vI 0, vI 5, vB false, vS none 0 0] rfl rfl rfl rfl (by kernel_rfl) (by kernel_rfl) (by kernel_rfl) (by kernel_rfl) hI ?_
  clear hI
  intro b14 _ hs15 hI
  replace hI := hI.asrow (k := kOp) (xs := ([(⟨1, 0, 5, false, ([] : List Int)⟩ : Op)] : List Op)) (cs := [vI 1, vI 0, vI 5, vB false, vS none 0 0]) (R := []) (L' := [.row tStr 9 (some ⟨b12, 0, none⟩) 1 1 ([(⟨#[120]⟩ : ByteArray)] : List ByteArray)]) 1 1 [] [0] (by decide) rfl (mks_cons (mk_iso (g := fun g : Op => (g.Kind, g.Key, g.Arg, g.Got, g.Vals)) (x := (⟨1, 0, 5, false, ([] : List Int)⟩ : Op)) (mk_pair (mk_flat (k := (tInt .i64)) 1 [vI 1] rfl) (mk_pair (mk_flat (k := (tInt .i64)) 0 [vI 0] rfl) (mk_pair (mk_flat (k := (tInt .i64)) 5 [vI 5] rfl) (mk_pair (mk_flat (k := tBool) false [vB false] rfl) mk_nil))))) mks_nil) rfl rfl (by kernel_rfl)
  refine bp 3 1 (oe 4 rfl ?_)
  refine e_partsS 35 2 1 _ _ _ #[vI 5] [vI 5] rfl rfl rfl rfl (by kernel_rfl) (by kernel_rfl) (by kernel_rfl) (by kernel_rfl) hI ?_
  clear hI
  intro b16 _ hs17 hI
  replace hI := hI.asrow (k := (tInt .i64)) (xs := ([5] : List Int)) (cs := [vI 5]) (R := []) (L' := [.row kOp 64 (some ⟨b14, 0, none⟩) 1 1 ([(⟨1, 0, 5, false, ([] : List Int)⟩ : Op)] : List Op), .row tStr 9 (some ⟨b12, 0, none⟩) 1 1 ([(⟨#[120]⟩ : ByteArray)] : List ByteArray)]) 1 2 [] [0, 1] (by decide) rfl (mks_cons (mk_flat (k := (tInt .i64)) 5 [vI 5] rfl) mks_nil) rfl rfl (by kernel_rfl)
  refine bp 5 1 (oe 6 rfl ?_)
  refine e_partsS 39 64 1 _ _ _ #[vI 5, vI 0, vI 0, vB true, vS (some ⟨b16, 0, none⟩) 1 1] [vI 5, vI 0, vI 0, vB true, vS (some ⟨b16, 0, none⟩) 1 1] rfl rfl rfl rfl (by kernel_rfl) (by kernel_rfl) (by kernel_rfl) (by kernel_rfl) hI ?_
  clear hI
  intro b18 _ hs19 hI
  replace hI := hI.asrow (k := kOp) (xs := ([(⟨5, 0, 0, true, ([5] : List Int)⟩ : Op)] : List Op)) (cs := [vI 5, vI 0, vI 0, vB true, vS (some ⟨b16, 0, none⟩) 1 1]) (R := [.row (tInt .i64) 2 (some ⟨b16, 0, none⟩) 1 1 ([5] : List Int)]) (L' := [.row kOp 64 (some ⟨b14, 0, none⟩) 1 1 ([(⟨1, 0, 5, false, ([] : List Int)⟩ : Op)] : List Op), .row tStr 9 (some ⟨b12, 0, none⟩) 1 1 ([(⟨#[120]⟩ : ByteArray)] : List ByteArray)]) 1 3 [0] [1, 2] (by decide) rfl (mks_cons (mk_iso (g := fun g : Op => (g.Kind, g.Key, g.Arg, g.Got, g.Vals)) (x := (⟨5, 0, 0, true, ([5] : List Int)⟩ : Op)) (mk_pair (mk_flat (k := (tInt .i64)) 5 [vI 5] rfl) (mk_pair (mk_flat (k := (tInt .i64)) 0 [vI 0] rfl) (mk_pair (mk_flat (k := (tInt .i64)) 0 [vI 0] rfl) (mk_pair (mk_flat (k := tBool) true [vB true] rfl) mk_row))))) mks_nil) rfl rfl (by kernel_rfl)
  refine bp 7 1 (oe 8 rfl ?_)
  refine e_partsS 23 41 2 _ _ _ #[vI 0, vI 1, vI 0, vI 1, vS (some ⟨b14, 0, none⟩) 1 1, vI 0, vI 1, vI 2, vI 3, vS (some ⟨b18, 0, none⟩) 1 1] [vI 0, vI 1, vI 0, vI 1, vS (some ⟨b14, 0, none⟩) 1 1, vI 0, vI 1, vI 2, vI 3, vS (some ⟨b18, 0, none⟩) 1 1] rfl rfl rfl rfl (by kernel_rfl) (by kernel_rfl) (by kernel_rfl) (by kernel_rfl) hI ?_
  clear hI
  intro b20 _ hs21 hI
  replace hI := hI.asrow (k := kTxn) (xs := ([(⟨0, 1, 0, 1, ([(⟨1, 0, 5, false, ([] : List Int)⟩ : Op)] : List Op)⟩ : Txn), (⟨0, 1, 2, 3, ([(⟨5, 0, 0, true, ([5] : List Int)⟩ : Op)] : List Op)⟩ : Txn)] : List Txn)) (cs := [vI 0, vI 1, vI 0, vI 1, vS (some ⟨b14, 0, none⟩) 1 1, vI 0, vI 1, vI 2, vI 3, vS (some ⟨b18, 0, none⟩) 1 1]) (R := [.row kOp 64 (some ⟨b14, 0, none⟩) 1 1 ([(⟨1, 0, 5, false, ([] : List Int)⟩ : Op)] : List Op), .row kOp 64 (some ⟨b18, 0, none⟩) 1 1 ([(⟨5, 0, 0, true, ([5] : List Int)⟩ : Op)] : List Op)]) (L' := [.row tStr 9 (some ⟨b12, 0, none⟩) 1 1 ([(⟨#[120]⟩ : ByteArray)] : List ByteArray)]) 2 3 [1, 0] [2] (by decide) rfl (mks_cons (mk_iso (g := fun g : Txn => (g.Proc, g.Status, g.From, g.To, g.Ops)) (x := (⟨0, 1, 0, 1, ([(⟨1, 0, 5, false, ([] : List Int)⟩ : Op)] : List Op)⟩ : Txn)) (mk_pair (mk_flat (k := (tInt .i64)) 0 [vI 0] rfl) (mk_pair (mk_flat (k := (tInt .i64)) 1 [vI 1] rfl) (mk_pair (mk_flat (k := (tInt .i64)) 0 [vI 0] rfl) (mk_pair (mk_flat (k := (tInt .i64)) 1 [vI 1] rfl) mk_row))))) (mks_cons (mk_iso (g := fun g : Txn => (g.Proc, g.Status, g.From, g.To, g.Ops)) (x := (⟨0, 1, 2, 3, ([(⟨5, 0, 0, true, ([5] : List Int)⟩ : Op)] : List Op)⟩ : Txn)) (mk_pair (mk_flat (k := (tInt .i64)) 0 [vI 0] rfl) (mk_pair (mk_flat (k := (tInt .i64)) 1 [vI 1] rfl) (mk_pair (mk_flat (k := (tInt .i64)) 2 [vI 2] rfl) (mk_pair (mk_flat (k := (tInt .i64)) 3 [vI 3] rfl) mk_row))))) mks_nil)) rfl rfl (by kernel_rfl)
  refine bp 9 1 (oe 10 rfl ?_)
  refine e_alloc 25 (.agg #[vS none 0 0, vS none 0 0]) [vS none 0 0, vS none 0 0] rfl (by kernel_rfl) rfl hI ?_
  clear hI
  intro b22 _ hI
  refine oe 11 rfl ?_
  refine e_store 25 _ _ 2 b22 25 [vS none 0 0, vS none 0 0] [vS (some ⟨b12, 0, none⟩) 1 1, vS (some ⟨b20, 0, none⟩) 2 2] 0 (.agg #[vS (some ⟨b12, 0, none⟩) 1 1, vS (some ⟨b20, 0, none⟩) 2 2]) rfl (by kernel_rfl) (by kernel_rfl) (by kernel_rfl) (by kernel_rfl) hI rfl (by kernel_rfl) (by kernel_rfl) ?_
  clear hI
  intro _ hI
  refine ro (go_seq (r_in (bg 0 [.l 0 0] (gA (hI.grp 2 rfl)) (oe 1 rfl ?_))))
  refine e_partsS 35 2 1 _ _ _ #[vI 5] [vI 5] rfl rfl rfl rfl (by kernel_rfl) (by kernel_rfl) (by kernel_rfl) (by kernel_rfl) hI ?_
  clear hI
  intro b29 _ hs30 hI
  replace hI := hI.asrow (k := (tInt .i64)) (xs := ([5] : List Int)) (cs := [vI 5]) (R := []) (L' := [.row kTxn 41 (some ⟨b20, 0, none⟩) 2 2 ([(⟨0, 1, 0, 1, ([(⟨1, 0, 5, false, ([] : List Int)⟩ : Op)] : List Op)⟩ : Txn), (⟨0, 1, 2, 3, ([(⟨5, 0, 0, true, ([5] : List Int)⟩ : Op)] : List Op)⟩ : Txn)] : List Txn), .row tStr 9 (some ⟨b12, 0, none⟩) 1 1 ([(⟨#[120]⟩ : ByteArray)] : List ByteArray), .blk b22 25 [vS (some ⟨b12, 0, none⟩) 1 1, vS (some ⟨b20, 0, none⟩) 2 2]]) 1 3 [] [0, 1, 2] (by decide) rfl (mks_cons (mk_flat (k := (tInt .i64)) 5 [vI 5] rfl) mks_nil) rfl rfl (by kernel_rfl)
  refine bp 2 1 ?_
  replace H := bind_some H
  obtain ⟨y31, hy32, H⟩ := H
  refine o_is 6 (vS (some ⟨b12, 0, none⟩) 1 1) (vS (some ⟨b12, 0, none⟩) (([(⟨#[120]⟩ : ByteArray)] : List ByteArray).length) 1) (by kernel_rfl) (by first | rfl | simp only [List.length_set, List.length_replicate, List.length_nil]) ?_
  refine o_is 8 (vS (some ⟨b14, 0, none⟩) 1 1) (vS (some ⟨b14, 0, none⟩) (([(⟨1, 0, 5, false, ([] : List Int)⟩ : Op)] : List Op).length) 1) (by kernel_rfl) (by first | rfl | simp only [List.length_set, List.length_replicate, List.length_nil]) ?_
  refine o_is 9 (.agg #[vI 0, vI 1, vI 0, vI 1, vS (some ⟨b14, 0, none⟩) 1 1]) (.agg #[vI 0, vI 1, vI 0, vI 1, vS (some ⟨b14, 0, none⟩) (([(⟨1, 0, 5, false, ([] : List Int)⟩ : Op)] : List Op).length) 1]) (by kernel_rfl) (by first | rfl | simp only [List.length_set, List.length_replicate, List.length_nil]) ?_
  refine o_is 10 (vS (some ⟨b16, 0, none⟩) 1 1) (vS (some ⟨b16, 0, none⟩) (([5] : List Int).length) 1) (by kernel_rfl) (by first | rfl | simp only [List.length_set, List.length_replicate, List.length_nil]) ?_
  refine o_is 11 (.agg #[vI 5, vI 0, vI 0, vB true, vS (some ⟨b16, 0, none⟩) 1 1]) (.agg #[vI 5, vI 0, vI 0, vB true, vS (some ⟨b16, 0, none⟩) (([5] : List Int).length) 1]) (by kernel_rfl) (by first | rfl | simp only [List.length_set, List.length_replicate, List.length_nil]) ?_
  refine o_is 12 (vS (some ⟨b18, 0, none⟩) 1 1) (vS (some ⟨b18, 0, none⟩) (([(⟨5, 0, 0, true, ([5] : List Int)⟩ : Op)] : List Op).length) 1) (by kernel_rfl) (by first | rfl | simp only [List.length_set, List.length_replicate, List.length_nil]) ?_
  refine o_is 13 (.agg #[vI 0, vI 1, vI 2, vI 3, vS (some ⟨b18, 0, none⟩) 1 1]) (.agg #[vI 0, vI 1, vI 2, vI 3, vS (some ⟨b18, 0, none⟩) (([(⟨5, 0, 0, true, ([5] : List Int)⟩ : Op)] : List Op).length) 1]) (by kernel_rfl) (by first | rfl | simp only [List.length_set, List.length_replicate, List.length_nil]) ?_
  refine o_is 14 (vS (some ⟨b20, 0, none⟩) 2 2) (vS (some ⟨b20, 0, none⟩) (([(⟨0, 1, 0, 1, ([(⟨1, 0, 5, false, ([] : List Int)⟩ : Op)] : List Op)⟩ : Txn), (⟨0, 1, 2, 3, ([(⟨5, 0, 0, true, ([5] : List Int)⟩ : Op)] : List Op)⟩ : Txn)] : List Txn).length) 2) (by kernel_rfl) (by first | rfl | simp only [List.length_set, List.length_replicate, List.length_nil]) ?_
  refine o_is 15 (.agg #[vS (some ⟨b12, 0, none⟩) 1 1, vS (some ⟨b20, 0, none⟩) 2 2]) (.agg #[vS (some ⟨b12, 0, none⟩) (([(⟨#[120]⟩ : ByteArray)] : List ByteArray).length) 1, vS (some ⟨b20, 0, none⟩) (([(⟨0, 1, 0, 1, ([(⟨1, 0, 5, false, ([] : List Int)⟩ : Op)] : List Op)⟩ : Txn), (⟨0, 1, 2, 3, ([(⟨5, 0, 0, true, ([5] : List Int)⟩ : Op)] : List Op)⟩ : Txn)] : List Txn).length) 2]) (by kernel_rfl) (by first | rfl | simp only [List.length_set, List.length_replicate, List.length_nil]) ?_
  refine o_is 17 (.agg #[vS (some ⟨b12, 0, none⟩) 1 1, vS (some ⟨b20, 0, none⟩) 2 2]) (.agg #[vS (some ⟨b12, 0, none⟩) (([(⟨#[120]⟩ : ByteArray)] : List ByteArray).length) 1, vS (some ⟨b20, 0, none⟩) (([(⟨0, 1, 0, 1, ([(⟨1, 0, 5, false, ([] : List Int)⟩ : Op)] : List Op)⟩ : Txn), (⟨0, 1, 2, 3, ([(⟨5, 0, 0, true, ([5] : List Int)⟩ : Op)] : List Op)⟩ : Txn)] : List Txn).length) 2]) (by kernel_rfl) (by first | rfl | simp only [List.length_set, List.length_replicate, List.length_nil]) ?_
  refine o_is 17 (.agg #[vS (some ⟨b12, 0, none⟩) 1 1, vS (some ⟨b20, 0, none⟩) 2 2]) (.agg #[vS (some ⟨b12, 0, none⟩) (([(⟨#[120]⟩ : ByteArray)] : List ByteArray).length) 1, vS (some ⟨b20, 0, none⟩) (([(⟨0, 1, 0, 1, ([(⟨1, 0, 5, false, ([] : List Int)⟩ : Op)] : List Op)⟩ : Txn), (⟨0, 1, 2, 3, ([(⟨5, 0, 0, true, ([5] : List Int)⟩ : Op)] : List Op)⟩ : Txn)] : List Txn).length) 2]) (by kernel_rfl) (by first | rfl | simp only [List.length_set, List.length_replicate, List.length_nil]) ?_
  refine o_is 18 (vS (some ⟨b29, 0, none⟩) 1 1) (vS (some ⟨b29, 0, none⟩) (([5] : List Int).length) 1) (by kernel_rfl) (by first | rfl | simp only [List.length_set, List.length_replicate, List.length_nil]) ?_
  refine o_is 19 (.agg #[vI 1, vI 0, vI 0, vS (some ⟨b29, 0, none⟩) 1 1]) (.agg #[vI 1, vI 0, vI 0, vS (some ⟨b29, 0, none⟩) (([5] : List Int).length) 1]) (by kernel_rfl) (by first | rfl | simp only [List.length_set, List.length_replicate, List.length_nil]) ?_
  refine o_is 19 (.agg #[vI 1, vI 0, vI 0, vS (some ⟨b29, 0, none⟩) 1 1]) (.agg #[vI 1, vI 0, vI 0, vS (some ⟨b29, 0, none⟩) (([5] : List Int).length) 1]) (by kernel_rfl) (by first | rfl | simp only [List.length_set, List.length_replicate, List.length_nil]) ?_
  replace hI := hI.renum 0 rfl
  replace hI := hI.renum 1 rfl
  replace hI := hI.renum 2 rfl
  replace hI := hI.recell 3 [vS (some ⟨b12, 0, none⟩) (([(⟨#[120]⟩ : ByteArray)] : List ByteArray).length) 1, vS (some ⟨b20, 0, none⟩) (([(⟨0, 1, 0, 1, ([(⟨1, 0, 5, false, ([] : List Int)⟩ : Op)] : List Op)⟩ : Txn), (⟨0, 1, 2, 3, ([(⟨5, 0, 0, true, ([5] : List Int)⟩ : Op)] : List Op)⟩ : Txn)] : List Txn).length) 2] (by first | rfl | simp only [List.length_set, List.length_replicate, List.length_nil]) rfl
  refine oe 3 rfl ?_
  refine ec (enter14 _) (source_Sources_calls (⟨([(⟨#[120]⟩ : ByteArray)] : List ByteArray), ([(⟨0, 1, 0, 1, ([(⟨1, 0, 5, false, ([] : List Int)⟩ : Op)] : List Op)⟩ : Txn), (⟨0, 1, 2, 3, ([(⟨5, 0, 0, true, ([5] : List Int)⟩ : Op)] : List Op)⟩ : Txn)] : List Txn)⟩ : History) (some ⟨b12, 0, none⟩) 1 (some ⟨b20, 0, none⟩) 2 (⟨1, 0, 0, ([5] : List Int)⟩ : Ask) (some ⟨b29, 0, none⟩) 1 (memOf _) _ (Inv.start _) (hI.row 2 rfl) (hI.rowle 2 rfl) (hI.row 1 rfl) (hI.rowle 1 rfl) (hI.row 0 rfl) (hI.rowle 0 rfl) _ hy32) ?_
  rintro _ _ ⟨A33, c34, rfl, hI'⟩
  replace hI := hI.call0 hI'
  clear hI'
  refine ⟨_, rfl, ?_⟩
  refine bp 4 5 (ro (go_seq (r_in (bg 0 [.l 0 0] (gA (hI.grp 3 rfl)) ?_))))
  replace H := bind_some H
  obtain ⟨y39, hy40, H⟩ := H
  refine oe 1 rfl ?_
  refine ec (enter11 _) (source_Empty_calls (⟨([(⟨#[120]⟩ : ByteArray)] : List ByteArray), ([(⟨0, 1, 0, 1, ([(⟨1, 0, 5, false, ([] : List Int)⟩ : Op)] : List Op)⟩ : Txn), (⟨0, 1, 2, 3, ([(⟨5, 0, 0, true, ([5] : List Int)⟩ : Op)] : List Op)⟩ : Txn)] : List Txn)⟩ : History) (some ⟨b12, 0, none⟩) 1 (some ⟨b20, 0, none⟩) 2 (memOf _) _ (Inv.start _) (hI.row 2 rfl) (hI.rowle 2 rfl) (hI.row 1 rfl) (hI.rowle 1 rfl) _ hy40) ?_
  rintro _ _ ⟨A41, c42, rfl, hI'⟩
  replace hI := hI.call0 hI'
  clear hI'
  refine ⟨_, rfl, ?_⟩
  refine bp 2 5 (ro (go_seq (r_in ?_)))
  replace H := cond_some H
  rcases H with ⟨hc50, H⟩ | ⟨hc50, H⟩
  · replace H := cond_some H
    rcases H with ⟨hc51, H⟩ | ⟨hc51, H⟩
    · replace H := must_some H
      obtain ⟨g52, H⟩ := H
      obtain ⟨b53, q54, rfl, _⟩ := rdS.fopen (hI.orrd 4 noM_sub rfl) (hI.orlen 4 rfl) g52
      replace H := cond_some H
      rcases H with ⟨hc55, H⟩ | ⟨hc55, H⟩
      · replace H := cond_some H
        rcases H with ⟨hc56, H⟩ | ⟨hc56, H⟩
        · refine bx 0 [.p, .p, .c true, .p, .p, .p, .p, .c true, .p, .x, .l 0 0, .p, .p, .c true, .p, .p, .p, .c true, .p, .p, .p, .p, .p] (gA ((rdS.flook (hI.orrd 4 noM_sub rfl) (hI.orlen 4 rfl) g52).ok)) _ (bC (bndEq hc50) (bC (bndEq hc51) (bC g52 (bC (bndEq hc55) (bZ (bndEq hc56)))))) (ro ?_)
          replace H := Option.some.inj H
          subst H
          exact gr Try.func10 ⟨rfl, hI.pn⟩
        · refine bx 0 [.p, .p, .c true, .p, .p, .p, .p, .c true, .p, .x, .l 0 0, .p, .p, .c true, .p, .p, .p, .c false, .p, .p, .p, .p, .p] (gA ((rdS.flook (hI.orrd 4 noM_sub rfl) (hI.orlen 4 rfl) g52).ok)) _ (bC (bndEq hc50) (bC (bndEq hc51) (bC g52 (bC (bndEq hc55) (bZ (bndEq hc56)))))) (ro ?_)
          replace H := Option.some.inj H
          subst H
          exact gr Try.func10 ⟨rfl, hI.pn⟩
      · refine bx 0 [.p, .p, .c true, .p, .p, .p, .p, .c true, .p, .x, .l 0 0, .p, .p, .c false, .p, .p, .p, .p, .p, .p, .p, .p, .p] (gA ((rdS.flook (hI.orrd 4 noM_sub rfl) (hI.orlen 4 rfl) g52).ok)) _ (bC (bndEq hc50) (bC (bndEq hc51) (bC g52 (bZ (bndEq hc55))))) (ro ?_)
        replace H := Option.some.inj H
        subst H
        exact gr Try.func10 ⟨rfl, hI.pn⟩
    · refine bx 0 [.p, .p, .c true, .p, .p, .p, .p, .c false, .p, .p, .p, .p, .p, .p, .p, .p, .p, .p, .p, .p, .p, .p, .p] gO _ (bC (bndEq hc50) (bZ (bndEq hc51))) (ro ?_)
      replace H := Option.some.inj H
      subst H
      exact gr Try.func10 ⟨rfl, hI.pn⟩
  · refine bx 0 [.p, .p, .c false, .p, .p, .p, .p, .p, .p, .p, .p, .p, .p, .p, .p, .p, .p, .p, .p, .p, .p, .p, .p] gO _ (bZ (bndEq hc50)) (ro ?_)
    replace H := Option.some.inj H
    subst H
    exact gr Try.func10 ⟨rfl, hI.pn⟩
theorem enter90 (a : Array Value) : Sem.pureRun Try.prog (callFunc 90 a) = some (.enter 90 a) := by kernel_rfl
theorem assizeref05zfind_calls (A0z : Option Addr) (c0z : Nat) (a0 : List ByteArray) (a1 : ByteArray) (M : Mem) (w : World) (hI : Inv M w []) (hr0z : rdS tStr M.blk A0z a0) (hl0z : a0.length ≤ c0z) (r : Int) (H : assizeref05zfind a0 a1 = some r) :
    Calls Try.prog 90 #[vS A0z a0.length c0z, .string a1] w fun e w' => e = .returned (vI r) ∧ Inv M w' [] := by
  refine cg Try.func90 ?_
  intro cs
  unfold assizeref05zfind at H
  refine go_seq (rp 1 (go_seq (go_seq (rp 1 (go_block ?_)))))
  refine go_iter (assizeref05zfind.s1 a0 a1) (fun x58 f w => ∃ (j : Nat → Value), f = updL j [(0, vS A0z a0.length c0z), (1, .string a1), (5, vI x58)] ∧ Inv M w []) H ⟨_, at_, hI⟩ ?_
  clear H hI
  rintro x58 _ _ o1 H ⟨_, rfl, hI⟩ hin1 hout1
  refine go_seq (go_seq (rp 4 ?_))
  replace H := cond_some H
  rcases H with ⟨hc60, H⟩ | ⟨hc60, H⟩
  · refine gt hc60 (go_skip (go_seq (go_block (go_seq (r_in ?_)))))
    replace H := must_some H
    obtain ⟨g72, H⟩ := H
    obtain ⟨b73, q74, rfl, _⟩ := rdS.fopen hr0z rfl g72
    refine bx 0 [.p, .p, .x, .l 0 0, .p, .p] (gA (hI.lies (rdS.flook hr0z rfl g72))) _ (bZ g72) (ro ?_)
    replace H := cond_some H
    rcases H with ⟨hc75, H⟩ | ⟨hc75, H⟩
    · refine gt hc75 (go_seq (rp 2 ?_))
      replace H := out_some H
      obtain ⟨_, H, he1⟩ := H
      have he := (hout1 _ he1).symm
      subst he
      replace H := Option.some.inj H
      subst H
      exact gr Try.func90 ⟨rfl, hI⟩
    · refine ge hc75 (go_skip (go_inBlock (rp 3 ?_)))
      exact hin1 _ (Option.some.inj H).symm _ _ ⟨_, at_, hI⟩
  · refine ge hc60 ?_
    refine go_exit rfl ?_
    refine go_seq (rp 1 ?_)
    replace H := out_some H
    obtain ⟨_, H, he1⟩ := H
    have he := (hout1 _ he1).symm
    subst he
    replace H := Option.some.inj H
    subst H
    exact gr Try.func90 ⟨rfl, hI⟩
theorem enter64 (a : Array Value) : Sem.pureRun Try.prog (callFunc 64 a) = some (.enter 64 a) := by kernel_rfl
theorem assizeref05znames_calls (A0z : Option Addr) (c0z : Nat) (a0 : List ByteArray) (M : Mem) (w : World) (hI : Inv M w []) (hr0z : rdS tStr M.blk A0z a0) (hl0z : a0.length ≤ c0z) (r : Bool) (H : assizeref05znames a0 = some r) :
    Calls Try.prog 64 #[vS A0z a0.length c0z] w fun e w' => e = .returned (vB r) ∧ Inv M w' [] := by
  refine cg Try.func64 ?_
  intro cs
  unfold assizeref05znames at H
  refine go_seq (rp 1 (go_seq (go_seq (rp 1 (go_block ?_)))))
  refine go_iter (assizeref05znames.s1 a0) (fun x138 f w => ∃ (j : Nat → Value), f = updL j [(0, vS A0z a0.length c0z), (3, vI x138)] ∧ Inv M w []) H ⟨_, at_, hI⟩ ?_
  clear H hI
  rintro x138 _ _ o1 H ⟨_, rfl, hI⟩ hin1 hout1
  refine go_seq (go_seq (rp 4 ?_))
  replace H := cond_some H
  rcases H with ⟨hc140, H⟩ | ⟨hc140, H⟩
  · refine gt hc140 (go_skip (go_seq (go_block ?_)))
    refine go_seq_join (o := o1) (fun b181 f w => ∃ (j : Nat → Value), f = updL j [(0, vS A0z a0.length c0z), (3, vI x138), (34, vB b181)] ∧ Inv M w []) (fun b181 => assizeref05znames.j2 x138 b181) ?_ (fun hJ182 => ?_)
    · clear H hI
      rintro b181 _ _ ⟨_, rfl, hI⟩ H
      replace H := cond_some H
      rcases H with ⟨hc183, H⟩ | ⟨hc183, H⟩
      · refine gt hc183 (go_seq (rp 1 ?_))
        replace H := out_some H
        obtain ⟨_, H, he1⟩ := H
        have he := (hout1 _ he1).symm
        subst he
        replace H := Option.some.inj H
        subst H
        exact gr Try.func64 ⟨rfl, hI⟩
      · refine ge hc183 (go_skip (go_inBlock (rp 3 ?_)))
        exact hin1 _ (Option.some.inj H).symm _ _ ⟨_, at_, hI⟩
    · replace H := must_some H
      obtain ⟨g184, H⟩ := H
      obtain ⟨b185, q186, rfl, _⟩ := rdS.fopen hr0z rfl g184
      replace H := cond_some H
      rcases H with ⟨hc187, H⟩ | ⟨hc187, H⟩
      · refine dx [.p, .p, .x, .l 0 0, .p, .p, .c true, .p, .p, .p, .p, .p, .p, .p, .p, .p, .p, .p, .p, .p, .p, .p, .p, .p, .p] (gA (hI.lies (rdS.flook hr0z rfl g184))) _ (bC g184 (bZ (bndEq hc187))) hI ?_
        clear hI
        intro _ hI
        exact hJ182 true _ _ ⟨_, at_, hI⟩ H
      · replace H := cond_some H
        rcases H with ⟨hc188, H⟩ | ⟨hc188, H⟩
        · refine dx [.p, .p, .x, .l 0 0, .p, .p, .c false, .p, .p, .x, .l 0 0, .p, .p, .p, .c true, .p, .p, .p, .p, .p, .p, .p, .p, .p, .p] (gA (hI.lies (rdS.flook hr0z rfl g184))) _ (bC g184 (bC (bndEq hc187) (bC g184 (bZ (bndEq hc188))))) hI ?_
          clear hI
          intro _ hI
          exact hJ182 true _ _ ⟨_, at_, hI⟩ H
        · replace H := must_some H
          obtain ⟨g189, H⟩ := H
          replace H := bind_some H
          obtain ⟨y194, hy195, H⟩ := H
          refine go_held (fun w => Inv M w []) (by kernel_rfl) ?_
          replace hI := hI.drew'
          refine hx (n := 4) [(0, .p), (1, .p), (2, .x), (3, .l 0 0), (4, .p), (5, .p), (6, .c false), (7, .p), (8, .p), (9, .x), (10, .l 0 0), (11, .p), (12, .p), (13, .p), (14, .c false), (15, .p), (16, .p), (18, .p), (19, .p), (20, .x), (21, .l 0 0)] (fun _ hS => (gA (hS.lies (rdS.flook hr0z rfl g184)))) hI _ (bC g184 (bC (bndEq hc187) (bC g184 (bC (bndEq hc188) (bZ g184))))) ?_
          refine ho (n := 3) 17 rfl (e_slice_ro tStr _ 22 9 _ _ _ _ (some ⟨b185, q186, none⟩) c0z a0 .i64 .i64 (0 : Int) x138 rfl (by kernel_rfl) (by kernel_rfl) (by kernel_rfl) rfl rfl rfl hr0z hl0z g189 ?_)
          intro A190 c191 hr192 hl193
          refine ⟨hI, ?_⟩
          refine ho (n := 2) 22 rfl (ec (enter90 _) (assizeref05zfind_calls A190 c191 (subl a0 (0 : Int) x138) (idx a0 x138) (memOf _) _ (Inv.start _) (hI.rd hr192) hl193 _ hy195) ?_)
          rintro _ _ ⟨rfl, hI'⟩
          replace hI := hI.call0 hI'
          clear hI'
          refine ⟨_, rfl, ?_⟩
          refine ⟨hI, ?_⟩
          refine hg (n := 0) [(23, .p), (24, .p)] (fun _ hS => gO) hI (hd ?_)
          exact hJ182 (decide (y194 ≥ 0)) _ _ ⟨_, at_, hI⟩ H
  · refine ge hc140 ?_
    refine go_exit rfl ?_
    refine go_seq (rp 4 ?_)
    replace H := out_some H
    obtain ⟨_, H, he1⟩ := H
    have he := (hout1 _ he1).symm
    subst he
    replace H := Option.some.inj H
    subst H
    exact gr Try.func64 ⟨rfl, hI⟩
theorem enter65 (a : Array Value) : Sem.pureRun Try.prog (callFunc 65 a) = some (.enter 65 a) := by kernel_rfl
theorem assizeref05zplaced_calls (A0z : Option Addr) (c0z : Nat) (a0 : List Txn) (a1 : Int) (M : Mem) (w : World) (hI : Inv M w []) (hr0z : rdS kTxn M.blk A0z a0) (hl0z : a0.length ≤ c0z) (r : Bool) (H : assizeref05zplaced a0 a1 = some r) :
    Calls Try.prog 65 #[vS A0z a0.length c0z, vI a1] w fun e w' => e = .returned (vB r) ∧ Inv M w' [] := by
  refine cg Try.func65 ?_
  intro cs
  unfold assizeref05zplaced at H
  refine go_seq (rp 1 (go_seq (r_in ?_)))
  replace H := must_some H
  obtain ⟨g12, H⟩ := H
  obtain ⟨b16, q17, rfl, cs15, hk14, hg13⟩ := rdS.open hr0z rfl g12
  obtain ⟨_, _, rfl, rfl, ⟨_, _, rfl, rfl, ⟨_, _, rfl, rfl, ⟨_, _, rfl, rfl, ⟨A18, c19, rfl, hl21, hr20⟩⟩⟩⟩⟩ := hk14
  refine bx 0 [.p, .p, .x, .l 0 0] (gA (hI.lies hg13)) _ (bZ g12) (oe 4 rfl ?_)
  refine e_alloc 41 (.agg #[vI 0, vI 0, vI 0, vI 0, vS none 0 0]) [vI 0, vI 0, vI 0, vI 0, vS none 0 0] rfl (by kernel_rfl) rfl hI ?_
  clear hI
  intro b22 _ hI
  refine oe 5 rfl ?_
  refine e_store 41 _ _ 0 b22 41 [vI 0, vI 0, vI 0, vI 0, vS none 0 0] [vI ((idx a0 a1).Proc), vI ((idx a0 a1).Status), vI ((idx a0 a1).From), vI ((idx a0 a1).To), vS A18 (((idx a0 a1).Ops).length) c19] 0 (.agg #[vI ((idx a0 a1).Proc), vI ((idx a0 a1).Status), vI ((idx a0 a1).From), vI ((idx a0 a1).To), vS A18 (((idx a0 a1).Ops).length) c19]) rfl (by kernel_rfl) (by kernel_rfl) (by kernel_rfl) (by kernel_rfl) hI rfl (by kernel_rfl) (by kernel_rfl) ?_
  clear hI
  intro _ hI
  refine ro (go_seq ?_)
  refine go_seq_join (o := r) (fun b39 f w => ∃ (j : Nat → Value), f = updL j [(0, vS (some ⟨b16, q17, none⟩) a0.length c0z), (1, vI a1), (5, vP b22 0), (45, vB b39)] ∧ Inv M w [.blk b22 41 [vI ((idx a0 a1).Proc), vI ((idx a0 a1).Status), vI ((idx a0 a1).From), vI ((idx a0 a1).To), vS A18 (((idx a0 a1).Ops).length) c19]]) (fun b39 => assizeref05zplaced.j1 a0 a1 b39) ?_ (fun hJ40 => ?_)
  · clear H hI
    rintro b39 _ _ ⟨_, rfl, hI⟩ H
    replace H := cond_some H
    rcases H with ⟨hc41, H⟩ | ⟨hc41, H⟩
    · refine gt hc41 (go_seq (rp 1 ?_))
      replace H := Option.some.inj H
      subst H
      exact gr Try.func65 ⟨rfl, hI.pn⟩
    · refine ge hc41 (go_skip (go_seq ?_))
      refine go_seq_join (o := r) (fun b62 f w => ∃ (j : Nat → Value), f = updL j [(0, vS (some ⟨b16, q17, none⟩) a0.length c0z), (1, vI a1), (5, vP b22 0), (58, vB b62)] ∧ Inv M w [.blk b22 41 [vI ((idx a0 a1).Proc), vI ((idx a0 a1).Status), vI ((idx a0 a1).From), vI ((idx a0 a1).To), vS A18 (((idx a0 a1).Ops).length) c19]]) (fun b62 => assizeref05zplaced.j2 a0 a1 b62) ?_ (fun hJ63 => ?_)
      · clear H hI
        rintro b62 _ _ ⟨_, rfl, hI⟩ H
        replace H := cond_some H
        rcases H with ⟨hc64, H⟩ | ⟨hc64, H⟩
        · refine gt hc64 (go_seq (rp 1 ?_))
          replace H := Option.some.inj H
          subst H
          exact gr Try.func65 ⟨rfl, hI.pn⟩
        · refine ge hc64 (go_skip (go_seq (go_seq (rp 1 (go_block ?_)))))
          refine go_iter (assizeref05zplaced.s3 a0 a1) (fun x298 f w => ∃ (j : Nat → Value), f = updL j [(0, vS (some ⟨b16, q17, none⟩) a0.length c0z), (1, vI a1), (5, vP b22 0), (6, vI x298)] ∧ Inv M w [.blk b22 41 [vI ((idx a0 a1).Proc), vI ((idx a0 a1).Status), vI ((idx a0 a1).From), vI ((idx a0 a1).To), vS A18 (((idx a0 a1).Ops).length) c19]]) H ⟨_, at_, hI⟩ ?_
          clear H hI
          rintro x298 _ _ o1 H ⟨_, rfl, hI⟩ hin1 hout1
          refine go_seq (go_seq (rp 3 ?_))
          replace H := cond_some H
          rcases H with ⟨hc300, H⟩ | ⟨hc300, H⟩
          · refine gt hc300 (go_skip (go_seq (go_block ?_)))
            refine go_seq_join (o := o1) (fun b377 f w => ∃ (j : Nat → Value), f = updL j [(0, vS (some ⟨b16, q17, none⟩) a0.length c0z), (1, vI a1), (5, vP b22 0), (6, vI x298), (89, vB b377)] ∧ Inv M w [.blk b22 41 [vI ((idx a0 a1).Proc), vI ((idx a0 a1).Status), vI ((idx a0 a1).From), vI ((idx a0 a1).To), vS A18 (((idx a0 a1).Ops).length) c19]]) (fun b377 => assizeref05zplaced.j4 x298 b377) ?_ (fun hJ378 => ?_)
            · clear H hI
              rintro b377 _ _ ⟨_, rfl, hI⟩ H
              replace H := cond_some H
              rcases H with ⟨hc379, H⟩ | ⟨hc379, H⟩
              · refine gt hc379 (go_seq (rp 1 ?_))
                replace H := out_some H
                obtain ⟨_, H, he1⟩ := H
                have he := (hout1 _ he1).symm
                subst he
                replace H := Option.some.inj H
                subst H
                exact gr Try.func65 ⟨rfl, hI.pn⟩
              · refine ge hc379 (go_skip (go_inBlock (rp 3 ?_)))
                exact hin1 _ (Option.some.inj H).symm _ _ ⟨_, at_, hI⟩
            · replace H := must_some H
              obtain ⟨g380, H⟩ := H
              obtain ⟨cs383, hk382, hg381⟩ := rdS.look hr0z rfl g380
              obtain ⟨_, _, rfl, rfl, ⟨_, _, rfl, rfl, ⟨_, _, rfl, rfl, ⟨_, _, rfl, rfl, ⟨A384, c385, rfl, hl387, hr386⟩⟩⟩⟩⟩ := hk382
              replace H := cond_some H
              rcases H with ⟨hc388, H⟩ | ⟨hc388, H⟩
              · obtain ⟨cs391, hk390, hg389⟩ := rdS.look hr0z rfl g380
                obtain ⟨_, _, rfl, rfl, ⟨_, _, rfl, rfl, ⟨_, _, rfl, rfl, ⟨_, _, rfl, rfl, ⟨A392, c393, rfl, hl395, hr394⟩⟩⟩⟩⟩ := hk390
                replace H := cond_some H
                rcases H with ⟨hc396, H⟩ | ⟨hc396, H⟩
                · refine dx [.p, .p, .x, .p, .l 0 0, .p, .l 1 0, .p, .c true, .p, .p, .x, .p, .l 2 3, .p, .c true, .p, .p, .p, .p, .p, .p, .p, .p, .p, .p] (gC (hI.lies hg381) (hI.grp 0 rfl) (hI.lies hg389)) _ (bC g380 (bC (bndEq hc388) (bC g380 (bZ (bndEq hc396))))) hI ?_
                  clear hI
                  intro _ hI
                  exact hJ378 true _ _ ⟨_, at_, hI⟩ H
                · obtain ⟨cs399, hk398, hg397⟩ := rdS.look hr0z rfl g380
                  obtain ⟨_, _, rfl, rfl, ⟨_, _, rfl, rfl, ⟨_, _, rfl, rfl, ⟨_, _, rfl, rfl, ⟨A400, c401, rfl, hl403, hr402⟩⟩⟩⟩⟩ := hk398
                  refine dx [.p, .p, .x, .p, .l 0 0, .p, .l 1 0, .p, .c true, .p, .p, .x, .p, .l 2 3, .p, .c false, .p, .p, .x, .p, .l 3 3, .p, .l 1 2, .p, .p, .p] (gD (hI.lies hg381) (hI.grp 0 rfl) (hI.lies hg389) (hI.lies hg397)) _ (bC g380 (bC (bndEq hc388) (bC g380 (bC (bndEq hc396) (bZ g380))))) hI ?_
                  clear hI
                  intro _ hI
                  exact hJ378 (decide ((idx a0 x298).To ≥ (idx a0 a1).From)) _ _ ⟨_, at_, hI⟩ H
              · refine dx [.p, .p, .x, .p, .l 0 0, .p, .l 1 0, .p, .c false, .p, .p, .p, .p, .p, .p, .p, .p, .p, .p, .p, .p, .p, .p, .p, .p, .p] (gB (hI.lies hg381) (hI.grp 0 rfl)) _ (bC g380 (bZ (bndEq hc388))) hI ?_
                clear hI
                intro _ hI
                exact hJ378 false _ _ ⟨_, at_, hI⟩ H
          · refine ge hc300 ?_
            refine go_exit rfl ?_
            refine go_seq (rp 1 ?_)
            replace H := out_some H
            obtain ⟨_, H, he1⟩ := H
            have he := (hout1 _ he1).symm
            subst he
            replace H := Option.some.inj H
            subst H
            exact gr Try.func65 ⟨rfl, hI.pn⟩
      · replace H := cond_some H
        rcases H with ⟨hc404, H⟩ | ⟨hc404, H⟩
        · replace H := must_some H
          obtain ⟨g405, H⟩ := H
          obtain ⟨cs408, hk407, hg406⟩ := rdS.look hr0z rfl g405
          obtain ⟨_, _, rfl, rfl, ⟨_, _, rfl, rfl, ⟨_, _, rfl, rfl, ⟨_, _, rfl, rfl, ⟨A409, c410, rfl, hl412, hr411⟩⟩⟩⟩⟩ := hk407
          refine dx [.p, .p, .c true, .p, .l 0 2, .p, .p, .p, .x, .p, .l 1 2, .p, .p] (gB (hI.grp 0 rfl) (hI.lies hg406)) _ (bC (bndEq hc404) (bZ g405)) hI ?_
          clear hI
          intro _ hI
          exact hJ63 (decide ((idx a0 a1).From ≤ (idx a0 (w64 (a1 - 1))).From)) _ _ ⟨_, at_, hI⟩ H
        · refine dx [.p, .p, .c false, .p, .p, .p, .p, .p, .p, .p, .p, .p, .p] gO _ (bZ (bndEq hc404)) hI ?_
          clear hI
          intro _ hI
          exact hJ63 false _ _ ⟨_, at_, hI⟩ H
  · refine r_in ?_
    replace H := cond_some H
    rcases H with ⟨hc413, H⟩ | ⟨hc413, H⟩
    · refine bx 0 [.p, .l 0 1, .p, .c true, .p, .p, .p, .p, .p, .p, .p, .p, .p, .p, .p, .p, .p, .p, .p, .p, .p, .p, .p, .p, .p, .p, .p, .p, .p, .p, .p, .p, .p, .p, .p] (gA (hI.grp 0 rfl)) _ (bZ (bndEq hc413)) (ro ?_)
      exact hJ40 true _ _ ⟨_, at_, hI⟩ H
    · replace H := cond_some H
      rcases H with ⟨hc414, H⟩ | ⟨hc414, H⟩
      · refine bx 0 [.p, .l 0 1, .p, .c false, .p, .l 0 1, .p, .p, .c true, .p, .p, .p, .p, .p, .p, .p, .p, .p, .p, .p, .p, .p, .p, .p, .p, .p, .p, .p, .p, .p, .p, .p, .p, .p, .p] (gA (hI.grp 0 rfl)) _ (bC (bndEq hc413) (bZ (bndEq hc414))) (ro ?_)
        exact hJ40 true _ _ ⟨_, at_, hI⟩ H
      · replace H := cond_some H
        rcases H with ⟨hc415, H⟩ | ⟨hc415, H⟩
        · refine bx 0 [.p, .l 0 1, .p, .c false, .p, .l 0 1, .p, .p, .c false, .p, .l 0 2, .p, .p, .c true, .p, .p, .p, .p, .p, .p, .p, .p, .p, .p, .p, .p, .p, .p, .p, .p, .p, .p, .p, .p, .p] (gA (hI.grp 0 rfl)) _ (bC (bndEq hc413) (bC (bndEq hc414) (bZ (bndEq hc415)))) (ro ?_)
          exact hJ40 true _ _ ⟨_, at_, hI⟩ H
        · replace H := cond_some H
          rcases H with ⟨hc416, H⟩ | ⟨hc416, H⟩
          · replace H := cond_some H
            rcases H with ⟨hc417, H⟩ | ⟨hc417, H⟩
            · refine bx 0 [.p, .l 0 1, .p, .c false, .p, .l 0 1, .p, .p, .c false, .p, .l 0 2, .p, .p, .c false, .p, .l 0 3, .p, .c true, .p, .l 0 3, .p, .l 0 2, .p, .p, .p, .c true, .p, .p, .p, .p, .p, .p, .p, .p, .p] (gA (hI.grp 0 rfl)) _ (bC (bndEq hc413) (bC (bndEq hc414) (bC (bndEq hc415) (bC (bndEq hc416) (bZ (bndEq hc417)))))) (ro ?_)
              exact hJ40 true _ _ ⟨_, at_, hI⟩ H
            · replace H := cond_some H
              rcases H with ⟨hc418, H⟩ | ⟨hc418, H⟩
              · refine bx 0 [.p, .l 0 1, .p, .c false, .p, .l 0 1, .p, .p, .c false, .p, .l 0 2, .p, .p, .c false, .p, .l 0 3, .p, .c true, .p, .l 0 3, .p, .l 0 2, .p, .p, .p, .c false, .p, .l 0 3, .p, .c true, .p, .l 0 1, .p, .p, .p] (gA (hI.grp 0 rfl)) _ (bC (bndEq hc413) (bC (bndEq hc414) (bC (bndEq hc415) (bC (bndEq hc416) (bC (bndEq hc417) (bZ (bndEq hc418))))))) (ro ?_)
                exact hJ40 ((idx a0 a1).Status != 3) _ _ ⟨_, at_, hI⟩ H
              · refine bx 0 [.p, .l 0 1, .p, .c false, .p, .l 0 1, .p, .p, .c false, .p, .l 0 2, .p, .p, .c false, .p, .l 0 3, .p, .c true, .p, .l 0 3, .p, .l 0 2, .p, .p, .p, .c false, .p, .l 0 3, .p, .c false, .p, .p, .p, .p, .p] (gA (hI.grp 0 rfl)) _ (bC (bndEq hc413) (bC (bndEq hc414) (bC (bndEq hc415) (bC (bndEq hc416) (bC (bndEq hc417) (bZ (bndEq hc418))))))) (ro ?_)
                exact hJ40 false _ _ ⟨_, at_, hI⟩ H
          · replace H := cond_some H
            rcases H with ⟨hc419, H⟩ | ⟨hc419, H⟩
            · refine bx 0 [.p, .l 0 1, .p, .c false, .p, .l 0 1, .p, .p, .c false, .p, .l 0 2, .p, .p, .c false, .p, .l 0 3, .p, .c false, .p, .p, .p, .p, .p, .p, .p, .p, .p, .l 0 3, .p, .c true, .p, .l 0 1, .p, .p, .p] (gA (hI.grp 0 rfl)) _ (bC (bndEq hc413) (bC (bndEq hc414) (bC (bndEq hc415) (bC (bndEq hc416) (bZ (bndEq hc419)))))) (ro ?_)
              exact hJ40 ((idx a0 a1).Status != 3) _ _ ⟨_, at_, hI⟩ H
            · refine bx 0 [.p, .l 0 1, .p, .c false, .p, .l 0 1, .p, .p, .c false, .p, .l 0 2, .p, .p, .c false, .p, .l 0 3, .p, .c false, .p, .p, .p, .p, .p, .p, .p, .p, .p, .l 0 3, .p, .c false, .p, .p, .p, .p, .p] (gA (hI.grp 0 rfl)) _ (bC (bndEq hc413) (bC (bndEq hc414) (bC (bndEq hc415) (bC (bndEq hc416) (bZ (bndEq hc419)))))) (ro ?_)
              exact hJ40 false _ _ ⟨_, at_, hI⟩ H
theorem enter108 (a : Array Value) : Sem.pureRun Try.prog (callFunc 108 a) = some (.enter 108 a) := by kernel_rfl
theorem assizeref03zcall_calls (a0 : Call) (A0z0 : Option Addr) (c0z0 : Nat) (a1 : Int) (M : Mem) (w : World) (hI : Inv M w []) (hr0z0 : rdS (tInt .i64) M.blk A0z0 a0.Vals) (hl0z0 : a0.Vals.length ≤ c0z0) (r : Bool) (H : assizeref03zcall a0 a1 = some r) :
    Calls Try.prog 108 #[.agg #[vI a0.Kind, .string a0.Key, vI a0.Arg, vB a0.Got, vS A0z0 a0.Vals.length c0z0], vI a1] w fun e w' => e = .returned (vB r) ∧ Inv M w' [] := by
  refine cg Try.func108 ?_
  intro cs
  unfold assizeref03zcall at H
  refine go_seq (r_in (oe 0 rfl ?_))
  refine e_box 89 _ (.agg #[vI a0.Kind, .string a0.Key, vI a0.Arg, vB a0.Got, vS A0z0 a0.Vals.length c0z0]) [vI a0.Kind, .string a0.Key, vI a0.Arg, vB a0.Got, vS A0z0 a0.Vals.length c0z0] rfl (by kernel_rfl) rfl hI ?_
  clear hI
  intro b2 _ hI
  refine bp 1 1 (ro (go_seq ?_))
  refine go_seq_join (o := r) (fun b11 f w => ∃ (j : Nat → Value), f = updL j [(1, vI a1), (2, vP b2 0), (25, vB b11)] ∧ Inv M w [.blk b2 89 [vI a0.Kind, .string a0.Key, vI a0.Arg, vB a0.Got, vS A0z0 a0.Vals.length c0z0]]) (fun b11 => assizeref03zcall.j1 a0 a1 b11) ?_ (fun hJ12 => ?_)
  · clear H hI
    rintro b11 _ _ ⟨_, rfl, hI⟩ H
    replace H := cond_some H
    rcases H with ⟨hc13, H⟩ | ⟨hc13, H⟩
    · refine gt hc13 (go_seq (rp 1 ?_))
      replace H := Option.some.inj H
      subst H
      exact gr Try.func108 ⟨rfl, hI.pn⟩
    · refine ge hc13 (go_skip (go_seq (go_seq (rg [.p, .l 0 0, .p] (gA (hI.grp 0 rfl)) ?_))))
      replace H := cond_some H
      rcases H with ⟨hc20, H⟩ | ⟨hc20, H⟩
      · refine gt hc20 (go_seq (r_in ?_))
        replace H := cond_some H
        rcases H with ⟨hc25, H⟩ | ⟨hc25, H⟩
        · replace H := cond_some H
          rcases H with ⟨hc26, H⟩ | ⟨hc26, H⟩
          · replace H := cond_some H
            rcases H with ⟨hc27, H⟩ | ⟨hc27, H⟩
            · refine bx 0 [.p, .l 0 3, .p, .c true, .p, .l 0 4, .p, .p, .p, .c true, .p, .l 0 0, .p, .c true, .p, .p, .p, .p, .p, .p, .p, .p, .p, .p, .p] (gA (hI.grp 0 rfl)) _ (bC (bndEq hc25) (bC (bndEq hc26) (bZ (bndEq hc27)))) (ro ?_)
              replace H := Option.some.inj H
              subst H
              exact gr Try.func108 ⟨rfl, hI.pn⟩
            · replace H := cond_some H
              rcases H with ⟨hc28, H⟩ | ⟨hc28, H⟩
              · refine bx 0 [.p, .l 0 3, .p, .c true, .p, .l 0 4, .p, .p, .p, .c true, .p, .l 0 0, .p, .c false, .p, .l 0 2, .p, .c true, .p, .l 0 2, .p, .p, .p, .p, .p] (gA (hI.grp 0 rfl)) _ (bC (bndEq hc25) (bC (bndEq hc26) (bC (bndEq hc27) (bZ (bndEq hc28))))) (ro ?_)
                replace H := Option.some.inj H
                subst H
                exact gr Try.func108 ⟨rfl, hI.pn⟩
              · refine bx 0 [.p, .l 0 3, .p, .c true, .p, .l 0 4, .p, .p, .p, .c true, .p, .l 0 0, .p, .c false, .p, .l 0 2, .p, .c false, .p, .p, .p, .p, .p, .p, .p] (gA (hI.grp 0 rfl)) _ (bC (bndEq hc25) (bC (bndEq hc26) (bC (bndEq hc27) (bZ (bndEq hc28))))) (ro ?_)
                replace H := Option.some.inj H
                subst H
                exact gr Try.func108 ⟨rfl, hI.pn⟩
          · refine bx 0 [.p, .l 0 3, .p, .c true, .p, .l 0 4, .p, .p, .p, .c false, .p, .p, .p, .p, .p, .p, .p, .p, .p, .p, .p, .p, .p, .p, .p] (gA (hI.grp 0 rfl)) _ (bC (bndEq hc25) (bZ (bndEq hc26))) (ro ?_)
            replace H := Option.some.inj H
            subst H
            exact gr Try.func108 ⟨rfl, hI.pn⟩
        · refine bx 0 [.p, .l 0 3, .p, .c false, .p, .p, .p, .p, .p, .p, .p, .p, .p, .p, .p, .p, .p, .p, .p, .p, .p, .p, .p, .p, .p] (gA (hI.grp 0 rfl)) _ (bZ (bndEq hc25)) (ro ?_)
          replace H := Option.some.inj H
          subst H
          exact gr Try.func108 ⟨rfl, hI.pn⟩
      · refine ge hc20 (go_skip (go_seq ?_))
        refine go_seq_join (o := r) (fun b37 f w => ∃ (j : Nat → Value), f = updL j [(2, vP b2 0), (73, vB b37)] ∧ Inv M w [.blk b2 89 [vI a0.Kind, .string a0.Key, vI a0.Arg, vB a0.Got, vS A0z0 a0.Vals.length c0z0]]) (fun b37 => assizeref03zcall.j2 a0 b37) ?_ (fun hJ38 => ?_)
        · clear H hI
          rintro b37 _ _ ⟨_, rfl, hI⟩ H
          replace H := cond_some H
          rcases H with ⟨hc39, H⟩ | ⟨hc39, H⟩
          · refine gt hc39 (go_seq (rp 1 ?_))
            replace H := Option.some.inj H
            subst H
            exact gr Try.func108 ⟨rfl, hI.pn⟩
          · refine ge hc39 (go_skip (go_seq (go_seq (rg [.p, .l 0 0] (gA (hI.grp 0 rfl)) ?_))))
            refine go_block_join (o := r) (fun (_ : Unit) f w => ∃ (j : Nat → Value), f = updL j [(2, vP b2 0)] ∧ Inv M w [.blk b2 89 [vI a0.Kind, .string a0.Key, vI a0.Arg, vB a0.Got, vS A0z0 a0.Vals.length c0z0]]) (fun (_ : Unit) => assizeref03zcall.j3 a0) ?_ (fun hJ98 => ?_)
            · clear H hI
              rintro ⟨⟩ _ _ ⟨_, rfl, hI⟩ H
              refine go_seq (rg [.p, .l 0 4, .p, .p, .p] (gA (hI.grp 0 rfl)) ?_)
              replace H := Option.some.inj H
              subst H
              exact gr Try.func108 ⟨rfl, hI.pn⟩
            · refine go_seq (rp 2 ?_)
              replace H := cond_some H
              rcases H with ⟨hc99, H⟩ | ⟨hc99, H⟩
              · refine gt hc99 (go_seq (rg [.p, .l 0 4, .p, .p, .p] (gA (hI.grp 0 rfl)) ?_))
                replace H := Option.some.inj H
                subst H
                exact gr Try.func108 ⟨rfl, hI.pn⟩
              · refine ge hc99 (go_seq (rp 2 ?_))
                replace H := cond_some H
                rcases H with ⟨hc100, H⟩ | ⟨hc100, H⟩
                · refine gt hc100 (go_seq (r_in ?_))
                  replace H := cond_some H
                  rcases H with ⟨hc102, H⟩ | ⟨hc102, H⟩
                  · refine bx 0 [.p, .l 0 3, .p, .c true, .p, .p, .p, .p, .p, .p] (gA (hI.grp 0 rfl)) _ (bZ (bndEq hc102)) (ro ?_)
                    replace H := Option.some.inj H
                    subst H
                    exact gr Try.func108 ⟨rfl, hI.pn⟩
                  · refine bx 0 [.p, .l 0 3, .p, .c false, .p, .l 0 4, .p, .p, .p, .p] (gA (hI.grp 0 rfl)) _ (bZ (bndEq hc102)) (ro ?_)
                    replace H := Option.some.inj H
                    subst H
                    exact gr Try.func108 ⟨rfl, hI.pn⟩
                · refine ge hc100 (go_seq (rp 2 ?_))
                  replace H := cond_some H
                  rcases H with ⟨hc103, H⟩ | ⟨hc103, H⟩
                  · refine gt hc103 (go_seq (rp 1 (go_block ?_)))
                    refine go_iter (assizeref03zcall.s4 a0) (fun x145 f w => ∃ (j : Nat → Value), f = updL j [(2, vP b2 0), (5, vI x145)] ∧ Inv M w [.blk b2 89 [vI a0.Kind, .string a0.Key, vI a0.Arg, vB a0.Got, vS A0z0 a0.Vals.length c0z0]]) H ⟨_, at_, hI⟩ ?_
                    clear H hI
                    rintro x145 _ _ o1 H ⟨_, rfl, hI⟩ hin1 hout1
                    refine go_seq (go_seq (rg [.p, .p, .l 0 4, .p, .p] (gA (hI.grp 0 rfl)) ?_))
                    replace H := cond_some H
                    rcases H with ⟨hc147, H⟩ | ⟨hc147, H⟩
                    · refine gt hc147 (go_skip (go_seq (go_block (go_seq ?_))))
                      replace H := must_some H
                      obtain ⟨g162, H⟩ := H
                      obtain ⟨b163, q164, rfl, _⟩ := rdS.fopen hr0z0 rfl g162
                      replace H := must_some H
                      obtain ⟨g165, H⟩ := H
                      refine dx [.p, .l 0 4, .p, .x, .l 1 0, .p, .l 0 4, .p, .p, .x, .l 2 0, .p] (gC (hI.grp 0 rfl) (hI.lies (rdS.flook hr0z0 rfl g162)) (hI.lies (rdS.flook hr0z0 rfl g165))) _ (bC g162 (bZ g165)) hI ?_
                      clear hI
                      intro _ hI
                      replace H := cond_some H
                      rcases H with ⟨hc166, H⟩ | ⟨hc166, H⟩
                      · refine gt hc166 (go_seq (rp 1 ?_))
                        replace H := out_some H
                        obtain ⟨_, H, he1⟩ := H
                        have he := (hout1 _ he1).symm
                        subst he
                        replace H := Option.some.inj H
                        subst H
                        exact gr Try.func108 ⟨rfl, hI.pn⟩
                      · refine ge hc166 (go_skip (go_inBlock (rp 3 ?_)))
                        exact hin1 _ (Option.some.inj H).symm _ _ ⟨_, at_, hI⟩
                    · refine ge hc147 ?_
                      refine go_exit rfl ?_
                      refine go_inBlock ?_
                      replace H := out_some H
                      obtain ⟨_, H, he1⟩ := H
                      have he := (hout1 _ he1).symm
                      subst he
                      exact hJ98 () _ _ ⟨_, at_, hI⟩ H
                  · refine ge hc103 (go_skip (go_inBlock ?_))
                    exact hJ98 () _ _ ⟨_, at_, hI⟩ H
        · refine r_in ?_
          replace H := cond_some H
          rcases H with ⟨hc167, H⟩ | ⟨hc167, H⟩
          · refine bx 0 [.p, .l 0 2, .p, .c true, .p, .p, .p, .p, .p, .p, .p, .p, .p, .p, .p, .p, .p, .p, .p, .p, .p] (gA (hI.grp 0 rfl)) _ (bZ (bndEq hc167)) (ro ?_)
            exact hJ38 true _ _ ⟨_, at_, hI⟩ H
          · replace H := cond_some H
            rcases H with ⟨hc168, H⟩ | ⟨hc168, H⟩
            · refine bx 0 [.p, .l 0 2, .p, .c false, .p, .l 0 3, .p, .p, .p, .p, .c true, .p, .p, .p, .p, .p, .p, .p, .p, .p, .p] (gA (hI.grp 0 rfl)) _ (bC (bndEq hc167) (bZ (bndEq hc168))) (ro ?_)
              exact hJ38 true _ _ ⟨_, at_, hI⟩ H
            · replace H := cond_some H
              rcases H with ⟨hc169, H⟩ | ⟨hc169, H⟩
              · refine bx 0 [.p, .l 0 2, .p, .c false, .p, .l 0 3, .p, .p, .p, .p, .c false, .p, .l 0 3, .p, .c true, .p, .l 0 4, .p, .p, .p, .p] (gA (hI.grp 0 rfl)) _ (bC (bndEq hc167) (bC (bndEq hc168) (bZ (bndEq hc169)))) (ro ?_)
                exact hJ38 (decide ((a0.Vals.length : Int) > 0)) _ _ ⟨_, at_, hI⟩ H
              · refine bx 0 [.p, .l 0 2, .p, .c false, .p, .l 0 3, .p, .p, .p, .p, .c false, .p, .l 0 3, .p, .c false, .p, .p, .p, .p, .p, .p] (gA (hI.grp 0 rfl)) _ (bC (bndEq hc167) (bC (bndEq hc168) (bZ (bndEq hc169)))) (ro ?_)
                exact hJ38 false _ _ ⟨_, at_, hI⟩ H
  · refine r_in ?_
    replace H := cond_some H
    rcases H with ⟨hc170, H⟩ | ⟨hc170, H⟩
    · refine bx 0 [.p, .l 0 0, .p, .c true, .p, .p, .p, .p, .p, .p, .p, .p, .p, .p, .p, .p, .p, .p, .p, .p] (gA (hI.grp 0 rfl)) _ (bZ (bndEq hc170)) (ro ?_)
      exact hJ12 true _ _ ⟨_, at_, hI⟩ H
    · replace H := cond_some H
      rcases H with ⟨hc171, H⟩ | ⟨hc171, H⟩
      · refine bx 0 [.p, .l 0 0, .p, .c false, .p, .l 0 0, .p, .p, .c true, .p, .p, .p, .p, .p, .p, .p, .p, .p, .p, .p] (gA (hI.grp 0 rfl)) _ (bC (bndEq hc170) (bZ (bndEq hc171))) (ro ?_)
        exact hJ12 true _ _ ⟨_, at_, hI⟩ H
      · replace H := cond_some H
        rcases H with ⟨hc172, H⟩ | ⟨hc172, H⟩
        · refine bx 0 [.p, .l 0 0, .p, .c false, .p, .l 0 0, .p, .p, .c false, .p, .l 0 1, .p, .p, .p, .c true, .p, .p, .p, .p, .p] (gA (hI.grp 0 rfl)) _ (bC (bndEq hc170) (bC (bndEq hc171) (bZ (bndEq hc172)))) (ro ?_)
          exact hJ12 true _ _ ⟨_, at_, hI⟩ H
        · refine bx 0 [.p, .l 0 0, .p, .c false, .p, .l 0 0, .p, .p, .c false, .p, .l 0 1, .p, .p, .p, .c false, .p, .l 0 1, .p, .p, .p] (gA (hI.grp 0 rfl)) _ (bC (bndEq hc170) (bC (bndEq hc171) (bZ (bndEq hc172)))) (ro ?_)
          exact hJ12 (decide ((a0.Key.size : Int) > 32)) _ _ ⟨_, at_, hI⟩ H
theorem enter91 (a : Array Value) : Sem.pureRun Try.prog (callFunc 91 a) = some (.enter 91 a) := by kernel_rfl
theorem assizeref03zsound_calls (a0 : Event) (A0z0 : Option Addr) (c0z0 : Nat) (M : Mem) (w : World) (hI : Inv M w []) (hr0z0 : rdS kCall M.blk A0z0 a0.Calls) (hl0z0 : a0.Calls.length ≤ c0z0) (r : Bool) (H : assizeref03zsound a0 = some r) :
    Calls Try.prog 91 #[.agg #[vI a0.Proc, vI a0.Kind, vS A0z0 a0.Calls.length c0z0]] w fun e w' => e = .returned (vB r) ∧ Inv M w' [] := by
  refine cg Try.func91 ?_
  intro cs
  unfold assizeref03zsound at H
  refine go_seq (r_in (oe 0 rfl ?_))
  refine e_box 84 _ (.agg #[vI a0.Proc, vI a0.Kind, vS A0z0 a0.Calls.length c0z0]) [vI a0.Proc, vI a0.Kind, vS A0z0 a0.Calls.length c0z0] rfl (by kernel_rfl) rfl hI ?_
  clear hI
  intro b2 _ hI
  refine bp 1 1 (ro (go_seq ?_))
  refine go_seq_join (o := r) (fun b9 f w => ∃ (j : Nat → Value), f = updL j [(1, vP b2 0), (17, vB b9)] ∧ Inv M w [.blk b2 84 [vI a0.Proc, vI a0.Kind, vS A0z0 a0.Calls.length c0z0]]) (fun b9 => assizeref03zsound.j1 a0 b9) ?_ (fun hJ10 => ?_)
  · clear H hI
    rintro b9 _ _ ⟨_, rfl, hI⟩ H
    replace H := cond_some H
    rcases H with ⟨hc11, H⟩ | ⟨hc11, H⟩
    · refine gt hc11 (go_seq (rp 1 ?_))
      replace H := Option.some.inj H
      subst H
      exact gr Try.func91 ⟨rfl, hI.pn⟩
    · refine ge hc11 (go_skip (go_seq (go_seq (rp 1 (go_block ?_)))))
      refine go_iter (assizeref03zsound.s2 a0) (fun x141 f w => ∃ (j : Nat → Value), f = updL j [(1, vP b2 0), (3, vI x141)] ∧ Inv M w [.blk b2 84 [vI a0.Proc, vI a0.Kind, vS A0z0 a0.Calls.length c0z0]]) H ⟨_, at_, hI⟩ ?_
      clear H hI
      rintro x141 _ _ o1 H ⟨_, rfl, hI⟩ hin1 hout1
      refine go_seq (go_seq (rg [.p, .p, .l 0 2, .p, .p] (gA (hI.grp 0 rfl)) ?_))
      replace H := cond_some H
      rcases H with ⟨hc143, H⟩ | ⟨hc143, H⟩
      · refine gt hc143 (go_skip (go_seq (go_block (go_seq ?_))))
        replace H := must_some H
        obtain ⟨g182, H⟩ := H
        obtain ⟨b186, q187, rfl, cs185, hk184, hg183⟩ := rdS.open hr0z0 rfl g182
        obtain ⟨_, _, rfl, rfl, ⟨_, _, rfl, rfl, ⟨_, _, rfl, rfl, ⟨_, _, rfl, rfl, ⟨A188, c189, rfl, hl191, hr190⟩⟩⟩⟩⟩ := hk184
        replace H := bind_some H
        obtain ⟨y192, hy193, H⟩ := H
        refine go_held (fun w => Inv M w [.blk b2 84 [vI a0.Proc, vI a0.Kind, vS (some ⟨b186, q187, none⟩) a0.Calls.length c0z0]]) (by kernel_rfl) ?_
        replace hI := hI.drew'
        refine hx (n := 2) [(0, .p), (1, .l 0 2), (2, .p), (3, .x), (4, .l 1 0), (5, .p), (6, .l 0 1)] (fun _ hS => (gB (hS.grp 0 rfl) (hS.lies hg183))) hI _ (bZ g182) ?_
        refine ho (n := 1) 7 rfl (ec (enter108 _) (assizeref03zcall_calls (idx a0.Calls x141) A188 c189 a0.Kind (memOf _) _ (Inv.start _) (hI.rd hr190) hl191 _ hy193) ?_)
        rintro _ _ ⟨rfl, hI'⟩
        replace hI := hI.call0 hI'
        clear hI'
        refine ⟨_, rfl, ?_⟩
        refine ⟨hI, ?_⟩
        refine hg (n := 0) [(8, .p)] (fun _ hS => gO) hI (hd ?_)
        replace H := cond_some H
        rcases H with ⟨hc194, H⟩ | ⟨hc194, H⟩
        · refine gt hc194 (go_seq (rp 1 ?_))
          replace H := out_some H
          obtain ⟨_, H, he1⟩ := H
          have he := (hout1 _ he1).symm
          subst he
          replace H := Option.some.inj H
          subst H
          exact gr Try.func91 ⟨rfl, hI.pn⟩
        · refine ge hc194 (go_skip (go_inBlock (rp 3 ?_)))
          exact hin1 _ (Option.some.inj H).symm _ _ ⟨_, at_, hI⟩
      · refine ge hc143 ?_
        refine go_exit rfl ?_
        refine go_seq (rp 1 ?_)
        replace H := out_some H
        obtain ⟨_, H, he1⟩ := H
        have he := (hout1 _ he1).symm
        subst he
        replace H := Option.some.inj H
        subst H
        exact gr Try.func91 ⟨rfl, hI.pn⟩
  · refine r_in ?_
    replace H := cond_some H
    rcases H with ⟨hc195, H⟩ | ⟨hc195, H⟩
    · refine bx 0 [.p, .l 0 1, .p, .c true, .p, .p, .p, .p, .p, .p, .p, .p, .p, .p] (gA (hI.grp 0 rfl)) _ (bZ (bndEq hc195)) (ro ?_)
      exact hJ10 true _ _ ⟨_, at_, hI⟩ H
    · replace H := cond_some H
      rcases H with ⟨hc196, H⟩ | ⟨hc196, H⟩
      · refine bx 0 [.p, .l 0 1, .p, .c false, .p, .l 0 1, .p, .p, .c true, .p, .p, .p, .p, .p] (gA (hI.grp 0 rfl)) _ (bC (bndEq hc195) (bZ (bndEq hc196))) (ro ?_)
        exact hJ10 true _ _ ⟨_, at_, hI⟩ H
      · refine bx 0 [.p, .l 0 1, .p, .c false, .p, .l 0 1, .p, .p, .c false, .p, .l 0 2, .p, .p, .p] (gA (hI.grp 0 rfl)) _ (bC (bndEq hc195) (bZ (bndEq hc196))) (ro ?_)
        exact hJ10 (decide ((a0.Calls.length : Int) > 16)) _ _ ⟨_, at_, hI⟩ H
theorem enter66 (a : Array Value) : Sem.pureRun Try.prog (callFunc 66 a) = some (.enter 66 a) := by kernel_rfl
theorem assizeref03zCheck_calls (A0z : Option Addr) (c0z : Nat) (a0 : List Event) (M : Mem) (w : World) (hI : Inv M w []) (hr0z : rdS kEvent M.blk A0z a0) (hl0z : a0.length ≤ c0z) (r : Int) (H : assizeref03zCheck a0 = some r) :
    Calls Try.prog 66 #[vS A0z a0.length c0z] w fun e w' => e = .returned (vI r) ∧ Inv M w' [] := by
  refine cg Try.func66 ?_
  intro cs
  unfold assizeref03zCheck at H
  refine go_seq (rp 1 (go_seq (go_seq (rp 3 ?_))))
  replace H := cond_some H
  rcases H with ⟨hc2, H⟩ | ⟨hc2, H⟩
  · refine gt hc2 (go_seq (rp 1 ?_))
    replace H := Option.some.inj H
    subst H
    exact gr Try.func66 ⟨rfl, hI⟩
  · refine ge hc2 (go_skip (go_seq (go_seq (rp 1 (go_block ?_)))))
    refine go_iter (assizeref03zCheck.s1 a0) (fun x132 f w => ∃ (j : Nat → Value), f = updL j [(0, vS A0z a0.length c0z), (3, vI x132)] ∧ Inv M w []) H ⟨_, at_, hI⟩ ?_
    clear H hI
    rintro x132 _ _ o1 H ⟨_, rfl, hI⟩ hin1 hout1
    refine go_seq (go_seq (rp 4 ?_))
    replace H := cond_some H
    rcases H with ⟨hc134, H⟩ | ⟨hc134, H⟩
    · refine gt hc134 (go_skip (go_seq (go_block (go_seq (r_in ?_)))))
      replace H := must_some H
      obtain ⟨g173, H⟩ := H
      obtain ⟨b177, q178, rfl, cs176, hk175, hg174⟩ := rdS.open hr0z rfl g173
      obtain ⟨_, _, rfl, rfl, ⟨_, _, rfl, rfl, ⟨A179, c180, rfl, hl182, hr181⟩⟩⟩ := hk175
      refine bx 0 [.p, .p, .x, .l 0 0] (gA (hI.lies hg174)) _ (bZ g173) ?_
      replace H := bind_some H
      obtain ⟨y183, hy184, H⟩ := H
      refine oe 4 rfl ?_
      refine ec (enter91 _) (assizeref03zsound_calls (idx a0 x132) A179 c180 (memOf _) _ (Inv.start _) (hI.rd hr181) hl182 _ hy184) ?_
      rintro _ _ ⟨rfl, hI'⟩
      replace hI := hI.call0 hI'
      clear hI'
      refine ⟨_, rfl, ?_⟩
      refine bp 5 1 (ro ?_)
      replace H := cond_some H
      rcases H with ⟨hc185, H⟩ | ⟨hc185, H⟩
      · refine gt hc185 (go_seq (rp 1 ?_))
        replace H := out_some H
        obtain ⟨_, H, he1⟩ := H
        have he := (hout1 _ he1).symm
        subst he
        replace H := Option.some.inj H
        subst H
        exact gr Try.func66 ⟨rfl, hI⟩
      · refine ge hc185 (go_skip (go_inBlock (rp 3 ?_)))
        exact hin1 _ (Option.some.inj H).symm _ _ ⟨_, at_, hI⟩
    · refine ge hc134 ?_
      refine go_exit rfl ?_
      refine go_seq (rp 1 ?_)
      replace H := out_some H
      obtain ⟨_, H, he1⟩ := H
      have he := (hout1 _ he1).symm
      subst he
      replace H := Option.some.inj H
      subst H
      exact gr Try.func66 ⟨rfl, hI⟩
theorem enter87 (a : Array Value) : Sem.pureRun Try.prog (callFunc 87 a) = some (.enter 87 a) := by kernel_rfl
theorem assizeref05zOf_calls (a0 : Int) (M : Mem) (w : World) (hI : Inv M w []) (r : Int) (H : assizeref05zOf a0 = some r) :
    Calls Try.prog 87 #[vI a0] w fun e w' => e = .returned (vI r) ∧ Inv M w' [] := by
  refine cg Try.func87 ?_
  intro cs
  unfold assizeref05zOf at H
  refine go_seq (rp 1 (go_seq (rp 5 ?_)))
  replace H := Option.some.inj H
  subst H
  exact gr Try.func87 ⟨rfl, hI⟩
theorem enter67 (a : Array Value) : Sem.pureRun Try.prog (callFunc 67 a) = some (.enter 67 a) := by kernel_rfl
theorem assizeref05zbook_enter_calls (b0z : Nat) (a0 : Assizeref05Book) (A0z0 : Option Addr) (c0z0 : Nat) (A0z1 : Option Addr) (c0z1 : Nat) (A0z2 : Option Addr) (c0z2 : Nat) (A0z3 : Option Addr) (c0z3 : Nat) (A0z4 : Option Addr) (c0z4 : Nat) (a1 : Call) (A1z0 : Option Addr) (c1z0 : Nat) (a2 : Int) (M : Mem) (w : World) (hI : Inv M w [.blk b0z 123 [vS A0z0 a0.keys.length c0z0, vS A0z1 a0.types.length c0z1, vS A0z2 a0.wrote.length c0z2, vS A0z3 a0.incs.length c0z3, vS A0z4 a0.last_.length c0z4], .row tStr 9 A0z0 a0.keys.length c0z0 a0.keys, .row (tInt .i64) 3 A0z1 a0.types.length c0z1 a0.types, .row (tSlice 2 (tInt .i64)) 35 A0z2 a0.wrote.length c0z2 a0.wrote, .row (tInt .i64) 3 A0z3 a0.incs.length c0z3 a0.incs, .row (tInt .i64) 3 A0z4 a0.last_.length c0z4 a0.last_]) (hr1z0 : rdS (tInt .i64) M.blk A1z0 a1.Vals) (hl1z0 : a1.Vals.length ≤ c1z0) (r : Int × Assizeref05Book) (H : assizeref05zbook_enter a0 a1 a2 = some r) :
    Calls Try.prog 67 #[vP b0z 0, .agg #[vI a1.Kind, .string a1.Key, vI a1.Arg, vB a1.Got, vS A1z0 a1.Vals.length c1z0], vI a2] w fun e w' => ∃ (A696 : Option Addr), ∃ (c697 : Nat), ∃ (A698 : Option Addr), ∃ (c699 : Nat), ∃ (A700 : Option Addr), ∃ (c701 : Nat), ∃ (A702 : Option Addr), ∃ (c703 : Nat), ∃ (A704 : Option Addr), ∃ (c705 : Nat), e = .returned (vI r.1) ∧ Inv M w' [.blk b0z 123 [vS A696 r.2.keys.length c697, vS A698 r.2.types.length c699, vS A700 r.2.wrote.length c701, vS A702 r.2.incs.length c703, vS A704 r.2.last_.length c705], .row tStr 9 A696 r.2.keys.length c697 r.2.keys, .row (tInt .i64) 3 A698 r.2.types.length c699 r.2.types, .row (tSlice 2 (tInt .i64)) 35 A700 r.2.wrote.length c701 r.2.wrote, .row (tInt .i64) 3 A702 r.2.incs.length c703 r.2.incs, .row (tInt .i64) 3 A704 r.2.last_.length c705 r.2.last_] := by
  refine cg Try.func67 ?_
  intro cs
  unfold assizeref05zbook_enter at H
  refine go_seq (r_in (oe 0 rfl ?_))
  refine e_box 89 _ (.agg #[vI a1.Kind, .string a1.Key, vI a1.Arg, vB a1.Got, vS A1z0 a1.Vals.length c1z0]) [vI a1.Kind, .string a1.Key, vI a1.Arg, vB a1.Got, vS A1z0 a1.Vals.length c1z0] rfl (by kernel_rfl) rfl hI ?_
  clear hI
  intro b2 _ hI
  refine bp 1 1 (ro (go_seq ?_))
  replace H := bind_some H
  obtain ⟨y5, hy6, H⟩ := H
  refine go_held (fun w => Inv M w [.blk b0z 123 [vS A0z0 a0.keys.length c0z0, vS A0z1 a0.types.length c0z1, vS A0z2 a0.wrote.length c0z2, vS A0z3 a0.incs.length c0z3, vS A0z4 a0.last_.length c0z4], .row tStr 9 A0z0 a0.keys.length c0z0 a0.keys, .row (tInt .i64) 3 A0z1 a0.types.length c0z1 a0.types, .row (tSlice 2 (tInt .i64)) 35 A0z2 a0.wrote.length c0z2 a0.wrote, .row (tInt .i64) 3 A0z3 a0.incs.length c0z3 a0.incs, .row (tInt .i64) 3 A0z4 a0.last_.length c0z4 a0.last_, .blk b2 89 [vI a1.Kind, .string a1.Key, vI a1.Arg, vB a1.Got, vS A1z0 a1.Vals.length c1z0]]) (by kernel_rfl) ?_
  replace hI := hI.drew'
  refine hg (n := 2) [(0, .p), (1, .p), (2, .p), (3, .l 0 0), (4, .p), (5, .l 1 1)] (fun _ hS => (gB (hS.grp 0 rfl) (hS.grp 6 rfl))) hI ?_
  refine ho (n := 1) 6 rfl (ec (enter90 _) (assizeref05zfind_calls A0z0 c0z0 a0.keys a1.Key (memOf _) _ (Inv.start _) (hI.row 1 rfl) (hI.rowle 1 rfl) _ hy6) ?_)
  rintro _ _ ⟨rfl, hI'⟩
  replace hI := hI.call0 hI'
  clear hI'
  refine ⟨_, rfl, ?_⟩
  refine ⟨hI, ?_⟩
  refine hg (n := 0) [(7, .p)] (fun _ hS => gO) hI (hd ?_)
  refine go_seq_join (o := r) (fun (l81, l84, l87, l90, l93, x96) f w => ∃ (j : Nat → Value) (A82 : Option Addr) (c83 : Nat) (A85 : Option Addr) (c86 : Nat) (A88 : Option Addr) (c89 : Nat) (A91 : Option Addr) (c92 : Nat) (A94 : Option Addr) (c95 : Nat), f = updL j [(0, vP b0z 0), (2, vI a2), (4, vP b2 0), (7, vI x96)] ∧ Inv M w [.blk b0z 123 [vS A82 l81.length c83, vS A85 l84.length c86, vS A88 l87.length c89, vS A91 l90.length c92, vS A94 l93.length c95], .row tStr 9 A82 l81.length c83 l81, .row (tInt .i64) 3 A85 l84.length c86 l84, .row (tSlice 2 (tInt .i64)) 35 A88 l87.length c89 l87, .row (tInt .i64) 3 A91 l90.length c92 l90, .row (tInt .i64) 3 A94 l93.length c95 l93, .blk b2 89 [vI a1.Kind, .string a1.Key, vI a1.Arg, vB a1.Got, vS A1z0 a1.Vals.length c1z0]]) (fun (l81, l84, l87, l90, l93, x96) => assizeref05zbook_enter.j1 a1 a2 l81 l84 l87 l90 l93 x96) ?_ (fun hJ97 => ?_)
  · clear H hI
    rintro ⟨l81, l84, l87, l90, l93, x96⟩ _ _ ⟨_, A82, c83, A85, c86, A88, c89, A91, c92, A94, c95, rfl, hI⟩ H
    refine go_seq (go_seq ?_)
    replace H := must_some H
    obtain ⟨g107, H⟩ := H
    obtain ⟨b108, rfl⟩ := hI.rowAt 2 rfl g107
    replace H := bind_some H
    obtain ⟨y109, hy110, H⟩ := H
    refine go_held (fun w => Inv M w [.blk b0z 123 [vS A82 l81.length c83, vS (some ⟨b108, 0, none⟩) l84.length c86, vS A88 l87.length c89, vS A91 l90.length c92, vS A94 l93.length c95], .row tStr 9 A82 l81.length c83 l81, .row (tInt .i64) 3 (some ⟨b108, 0, none⟩) l84.length c86 l84, .row (tSlice 2 (tInt .i64)) 35 A88 l87.length c89 l87, .row (tInt .i64) 3 A91 l90.length c92 l90, .row (tInt .i64) 3 A94 l93.length c95 l93, .blk b2 89 [vI a1.Kind, .string a1.Key, vI a1.Arg, vB a1.Got, vS A1z0 a1.Vals.length c1z0]]) (by kernel_rfl) ?_
    replace hI := hI.drew'
    refine hx (n := 2) [(0, .p), (1, .p), (2, .p), (3, .l 0 1), (4, .p), (5, .x), (6, .l 1 0), (7, .p), (8, .l 2 0)] (fun _ hS => (gC (hS.grp 0 rfl) ((rdS.flook (hS.row 2 rfl) (hS.rowlen 2 rfl) g107).ok) (hS.grp 6 rfl))) hI _ (bZ g107) ?_
    refine ho (n := 1) 9 rfl (ec (enter87 _) (assizeref05zOf_calls a1.Kind (memOf _) _ (Inv.start _) _ hy110) ?_)
    rintro _ _ ⟨rfl, hI'⟩
    replace hI := hI.call0 hI'
    clear hI'
    refine ⟨_, rfl, ?_⟩
    refine ⟨hI, ?_⟩
    refine hg (n := 0) [(10, .p)] (fun _ hS => gO) hI (hd ?_)
    replace H := cond_some H
    rcases H with ⟨hc111, H⟩ | ⟨hc111, H⟩
    · refine gt hc111 (go_seq (rp 1 ?_))
      replace H := Option.some.inj H
      subst H
      exact gr Try.func67 ⟨A82, c83, (some ⟨b108, 0, none⟩), c86, A88, c89, A91, c92, A94, c95, rfl, hI.pick [0, 1, 2, 3, 4, 5] (by decide) rfl⟩
    · refine ge hc111 (go_skip ?_)
      refine go_seq_join (o := r) (fun l219 f w => ∃ (j : Nat → Value) (A220 : Option Addr) (c221 : Nat), f = updL j [(0, vP b0z 0), (2, vI a2), (4, vP b2 0), (7, vI x96)] ∧ Inv M w [.blk b0z 123 [vS A82 l81.length c83, vS (some ⟨b108, 0, none⟩) l84.length c86, vS A220 l219.length c221, vS A91 l90.length c92, vS A94 l93.length c95], .row tStr 9 A82 l81.length c83 l81, .row (tInt .i64) 3 (some ⟨b108, 0, none⟩) l84.length c86 l84, .row (tSlice 2 (tInt .i64)) 35 A220 l219.length c221 l219, .row (tInt .i64) 3 A91 l90.length c92 l90, .row (tInt .i64) 3 A94 l93.length c95 l93, .blk b2 89 [vI a1.Kind, .string a1.Key, vI a1.Arg, vB a1.Got, vS A1z0 a1.Vals.length c1z0]]) (fun l219 => assizeref05zbook_enter.j2 a1 a2 l81 l84 l90 l93 x96 l219) ?_ (fun hJ222 => ?_)
      · clear H hI
        rintro l219 _ _ ⟨_, A220, c221, rfl, hI⟩ H
        refine go_seq_join (o := r) (fun (l233, l236) f w => ∃ (j : Nat → Value) (A234 : Option Addr) (c235 : Nat) (A237 : Option Addr) (c238 : Nat), f = updL j [(0, vP b0z 0)] ∧ Inv M w [.blk b0z 123 [vS A82 l81.length c83, vS (some ⟨b108, 0, none⟩) l84.length c86, vS A220 l219.length c221, vS A234 l233.length c235, vS A237 l236.length c238], .row tStr 9 A82 l81.length c83 l81, .row (tInt .i64) 3 (some ⟨b108, 0, none⟩) l84.length c86 l84, .row (tSlice 2 (tInt .i64)) 35 A220 l219.length c221 l219, .row (tInt .i64) 3 A234 l233.length c235 l233, .row (tInt .i64) 3 A237 l236.length c238 l236]) (fun (l233, l236) => assizeref05zbook_enter.j3 l81 l84 l219 l233 l236) ?_ (fun hJ239 => ?_)
        · clear H hI
          rintro ⟨l233, l236⟩ _ _ ⟨_, A234, c235, A237, c238, rfl, hI⟩ H
          refine go_seq (rp 1 ?_)
          replace H := Option.some.inj H
          subst H
          exact gr Try.func67 ⟨A82, c83, (some ⟨b108, 0, none⟩), c86, A220, c221, A234, c235, A237, c238, rfl, hI⟩
        · refine go_seq_join (o := r) (fun b243 f w => ∃ (j : Nat → Value), f = updL j [(0, vP b0z 0), (2, vI a2), (7, vI x96), (153, vB b243)] ∧ Inv M w [.blk b0z 123 [vS A82 l81.length c83, vS (some ⟨b108, 0, none⟩) l84.length c86, vS A220 l219.length c221, vS A91 l90.length c92, vS A94 l93.length c95], .row tStr 9 A82 l81.length c83 l81, .row (tInt .i64) 3 (some ⟨b108, 0, none⟩) l84.length c86 l84, .row (tSlice 2 (tInt .i64)) 35 A220 l219.length c221 l219, .row (tInt .i64) 3 A91 l90.length c92 l90, .row (tInt .i64) 3 A94 l93.length c95 l93]) (fun b243 => assizeref05zbook_enter.j4 a2 l81 l84 l90 l93 x96 l219 b243) ?_ (fun hJ244 => ?_)
          · clear H hI
            rintro b243 _ _ ⟨_, rfl, hI⟩ H
            replace H := cond_some H
            rcases H with ⟨hc245, H⟩ | ⟨hc245, H⟩
            · refine gt hc245 (go_seq (r_in ?_))
              replace H := must_some H
              obtain ⟨g248, H⟩ := H
              obtain ⟨b249, rfl⟩ := hI.rowAt 5 rfl g248
              refine bx 0 [.p, .p, .p, .l 0 4, .p, .p, .x] (gA (hI.grp 0 rfl)) _ (bZ g248) (oe 7 rfl ?_)
              refine e_put 3 _ _ 5 b249 3 l93.length c95 l93 a2 x96 0 (vI a2) rfl (by kernel_rfl) (by kernel_rfl) (by kernel_rfl) (by kernel_rfl) hI rfl g248 (by kernel_rfl) (by kernel_rfl) ?_
              clear hI
              intro _ hI
              refine ro (go_seq (r_in ?_))
              replace H := must_some H
              obtain ⟨g252, H⟩ := H
              obtain ⟨b253, rfl⟩ := hI.rowAt 4 rfl g252
              refine bx 0 [.p, .p, .p, .l 0 3, .p, .x, .l 1 0, .p, .x] (gB (hI.grp 0 rfl) ((rdS.flook (hI.row 4 rfl) (hI.rowlen 4 rfl) g252).ok)) _ (bC g252 (bZ g252)) (oe 9 rfl ?_)
              refine e_put 3 _ _ 4 b253 3 l90.length c92 l90 (w64 ((idx l90 x96) + 1)) x96 0 (vI (w64 ((idx l90 x96) + 1))) rfl (by kernel_rfl) (by kernel_rfl) (by kernel_rfl) (by kernel_rfl) hI rfl g252 (by kernel_rfl) (by kernel_rfl) ?_
              clear hI
              intro _ hI
              refine ro (go_seq (r_in (bx 0 [.p, .p, .p, .l 0 3, .p, .x, .l 1 0, .p] (gB (hI.grp 0 rfl) ((rdS.flook (hI.row 4 rfl) (hI.rowlen 4 rfl) g252).ok)) _ (bZ g252) (ro ?_))))
              replace H := cond_some H
              rcases H with ⟨hc254, H⟩ | ⟨hc254, H⟩
              · refine gt hc254 (go_seq (rp 1 ?_))
                replace hI := hI.recell 0 [vS A82 l81.length c83, vS (some ⟨b108, 0, none⟩) l84.length c86, vS A220 l219.length c221, vS (some ⟨b253, 0, none⟩) ((l90.set x96.toNat (w64 ((idx l90 x96) + 1))).length) c92, vS (some ⟨b249, 0, none⟩) ((l93.set x96.toNat a2).length) c95] (by first | rfl | simp only [List.length_set, List.length_replicate, List.length_nil]) rfl
                replace hI := hI.renum 4 rfl
                replace hI := hI.renum 5 rfl
                replace H := Option.some.inj H
                subst H
                exact gr Try.func67 ⟨A82, c83, (some ⟨b108, 0, none⟩), c86, A220, c221, (some ⟨b253, 0, none⟩), c92, (some ⟨b249, 0, none⟩), c95, rfl, hI⟩
              · refine ge hc254 (go_skip ?_)
                replace hI := hI.recell 0 [vS A82 l81.length c83, vS (some ⟨b108, 0, none⟩) l84.length c86, vS A220 l219.length c221, vS (some ⟨b253, 0, none⟩) ((l90.set x96.toNat (w64 ((idx l90 x96) + 1))).length) c92, vS (some ⟨b249, 0, none⟩) ((l93.set x96.toNat a2).length) c95] (by first | rfl | simp only [List.length_set, List.length_replicate, List.length_nil]) rfl
                replace hI := hI.renum 4 rfl
                replace hI := hI.renum 5 rfl
                exact hJ239 (l90.set x96.toNat (w64 ((idx l90 x96) + 1)), l93.set x96.toNat a2) _ _ ⟨_, (some ⟨b253, 0, none⟩), c92, (some ⟨b249, 0, none⟩), c95, at_, hI⟩ H
            · refine ge hc245 (go_skip ?_)
              exact hJ239 (l90, l93) _ _ ⟨_, A91, c92, A94, c95, at_, hI⟩ H
          · refine r_in ?_
            replace H := cond_some H
            rcases H with ⟨hc255, H⟩ | ⟨hc255, H⟩
            · replace H := must_some H
              obtain ⟨g256, H⟩ := H
              obtain ⟨b257, rfl⟩ := hI.rowAt 5 rfl g256
              refine bx 0 [.p, .l 0 0, .p, .c true, .p, .p, .p, .l 1 4, .p, .x, .l 2 0, .p, .p, .p] (gC (hI.grp 6 rfl) (hI.grp 0 rfl) ((rdS.flook (hI.row 5 rfl) (hI.rowlen 5 rfl) g256).ok)) _ (bC (bndEq hc255) (bZ g256)) (ro ?_)
              exact hJ244 (idx l93 x96 != a2) _ _ ⟨_, at_, hI.pick [0, 1, 2, 3, 4, 5] (by decide) rfl⟩ H
            · refine bx 0 [.p, .l 0 0, .p, .c false, .p, .p, .p, .p, .p, .p, .p, .p, .p, .p] (gA (hI.grp 6 rfl)) _ (bZ (bndEq hc255)) (ro ?_)
              exact hJ244 false _ _ ⟨_, at_, hI.pick [0, 1, 2, 3, 4, 5] (by decide) rfl⟩ H
      · refine go_seq_join (o := r) (fun b259 f w => ∃ (j : Nat → Value), f = updL j [(0, vP b0z 0), (2, vI a2), (4, vP b2 0), (7, vI x96), (97, vB b259)] ∧ Inv M w [.blk b0z 123 [vS A82 l81.length c83, vS (some ⟨b108, 0, none⟩) l84.length c86, vS A88 l87.length c89, vS A91 l90.length c92, vS A94 l93.length c95], .row tStr 9 A82 l81.length c83 l81, .row (tInt .i64) 3 (some ⟨b108, 0, none⟩) l84.length c86 l84, .row (tSlice 2 (tInt .i64)) 35 A88 l87.length c89 l87, .row (tInt .i64) 3 A91 l90.length c92 l90, .row (tInt .i64) 3 A94 l93.length c95 l93, .blk b2 89 [vI a1.Kind, .string a1.Key, vI a1.Arg, vB a1.Got, vS A1z0 a1.Vals.length c1z0]]) (fun b259 => assizeref05zbook_enter.j5 a1 a2 l81 l84 l87 l90 l93 x96 b259) ?_ (fun hJ260 => ?_)
        · clear H hI
          rintro b259 _ _ ⟨_, rfl, hI⟩ H
          replace H := cond_some H
          rcases H with ⟨hc261, H⟩ | ⟨hc261, H⟩
          · refine gt hc261 (go_seq (go_seq (rp 1 (go_block ?_))))
            refine go_iter (assizeref05zbook_enter.s6 a1 a2 l81 l84 l87 l90 l93 x96) (fun x447 f w => ∃ (j : Nat → Value), f = updL j [(0, vP b0z 0), (2, vI a2), (4, vP b2 0), (7, vI x96), (8, vI x447)] ∧ Inv M w [.blk b0z 123 [vS A82 l81.length c83, vS (some ⟨b108, 0, none⟩) l84.length c86, vS A88 l87.length c89, vS A91 l90.length c92, vS A94 l93.length c95], .row tStr 9 A82 l81.length c83 l81, .row (tInt .i64) 3 (some ⟨b108, 0, none⟩) l84.length c86 l84, .row (tSlice 2 (tInt .i64)) 35 A88 l87.length c89 l87, .row (tInt .i64) 3 A91 l90.length c92 l90, .row (tInt .i64) 3 A94 l93.length c95 l93, .blk b2 89 [vI a1.Kind, .string a1.Key, vI a1.Arg, vB a1.Got, vS A1z0 a1.Vals.length c1z0]]) H ⟨_, at_, hI⟩ ?_
            clear H hI
            rintro x447 _ _ o1 H ⟨_, rfl, hI⟩ hin1 hout1
            refine go_seq (go_seq (r_in ?_))
            replace H := must_some H
            obtain ⟨g467, H⟩ := H
            obtain ⟨b468, rfl⟩ := hI.rowAt 3 rfl g467
            obtain ⟨cs471, hk470, hg469⟩ := rdS.look (hI.row 3 rfl) (hI.rowlen 3 rfl) g467
            obtain ⟨A472, c473, rfl, hl475, hr474⟩ := hk470
            refine bx 0 [.p, .p, .p, .p, .l 0 2, .p, .x, .l 1 0, .p, .p] (gB (hI.grp 0 rfl) hg469.ok) _ (bZ g467) (ro ?_)
            replace H := cond_some H
            rcases H with ⟨hc476, H⟩ | ⟨hc476, H⟩
            · refine gt hc476 (go_skip (go_seq (go_block (go_seq ?_))))
              obtain ⟨cs511, hk510, hg509⟩ := rdS.look (hI.row 3 rfl) (hI.rowlen 3 rfl) g467
              obtain ⟨A512, c513, rfl, hl515, hr514⟩ := hk510
              replace H := must_some H
              obtain ⟨g516, H⟩ := H
              obtain ⟨b517, q518, rfl, _⟩ := rdS.fopen hr514 rfl g516
              refine dx [.p, .p, .p, .l 0 2, .p, .x, .l 1 0, .p, .x, .l 2 0, .p, .l 3 2, .p] (gD (hI.grp 0 rfl) hg509.ok ((rdS.flook hr514 rfl g516).ok) (hI.grp 6 rfl)) _ (bC g467 (bZ g516)) hI ?_
              clear hI
              intro _ hI
              replace H := cond_some H
              rcases H with ⟨hc519, H⟩ | ⟨hc519, H⟩
              · refine gt hc519 (go_seq (rp 1 ?_))
                replace H := out_some H
                obtain ⟨_, H, he1⟩ := H
                have he := (hout1 _ he1).symm
                subst he
                replace H := Option.some.inj H
                subst H
                exact gr Try.func67 ⟨A82, c83, (some ⟨b108, 0, none⟩), c86, (some ⟨b468, 0, none⟩), c89, A91, c92, A94, c95, rfl, hI.pick [0, 1, 2, 3, 4, 5] (by decide) rfl⟩
              · refine ge hc519 (go_skip (go_inBlock (rp 3 ?_)))
                exact hin1 _ (Option.some.inj H).symm _ _ ⟨_, at_, hI⟩
            · refine ge hc476 ?_
              refine go_exit rfl ?_
              replace H := must_some H
              obtain ⟨g529, H⟩ := H
              refine go_held (fun w => Inv M w [.blk b0z 123 [vS A82 l81.length c83, vS (some ⟨b108, 0, none⟩) l84.length c86, vS (some ⟨b468, 0, none⟩) l87.length c89, vS A91 l90.length c92, vS A94 l93.length c95], .row tStr 9 A82 l81.length c83 l81, .row (tInt .i64) 3 (some ⟨b108, 0, none⟩) l84.length c86 l84, .row (tInt .i64) 3 A91 l90.length c92 l90, .row (tInt .i64) 3 A94 l93.length c95 l93, .blk b2 89 [vI a1.Kind, .string a1.Key, vI a1.Arg, vB a1.Got, vS A1z0 a1.Vals.length c1z0]]) (by kernel_rfl) ?_
              replace hI := hI.drew'
              obtain ⟨cs534, hk533, hg532⟩ := rdS.look (hI.row 3 rfl) (hI.rowlen 3 rfl) g467
              obtain ⟨A535, c536, rfl, hl538, hr537⟩ := hk533
              refine hx (n := 5) [(0, .p), (1, .p), (2, .p), (3, .l 0 2), (4, .p), (5, .p), (6, .p), (7, .p), (8, .l 0 2), (9, .p), (10, .x), (12, .p), (13, .l 1 2)] (fun _ hS => (gB (hS.grp 0 rfl) (hS.grp 5 rfl))) (hI.pk [0, 1, 2, 4, 5, 6]) _ (bZ g467) ?_
              refine held_each (n := 4) [11, 14] (by simp) (by kernel_rfl) ⟨⟨_, rfl, by kernel_rfl, ?_⟩, ⟨_, rfl, by kernel_rfl, ?_⟩, trivial⟩
              · refine (e_read (ops := #[]) [(b468, 0 + x96.toNat * 1, [vS A535 ((idx l87 x96).length) c536])] (.l 0 0) (vS A535 ((idx l87 x96).length) c536) [] ⟨hg532.ok, trivial⟩ trivial (by kernel_rfl) (by kernel_rfl) (by kernel_rfl) ⟨(hI.pk [0, 1, 2, 4, 5, 6]), ?_⟩)
                refine ho (n := 3) 14 rfl (e_partsS 35 2 1 _ _ _ #[vI a1.Arg] [vI a1.Arg] rfl rfl rfl rfl (by kernel_rfl) (by kernel_rfl) (by kernel_rfl) (by kernel_rfl) hI ?_)
                clear hI
                intro b543 _ hs544 hI
                refine ⟨(hI.pk [0, 1, 2, 4, 5, 6]), ?_⟩
                replace hI := hI.takeS (kt := (tInt .i64)) 3 rfl g467 (Lies.ok (Lies.mono hg532 hs544))
                refine ho (n := 2) 15 rfl (e_append (tInt .i64) 35 0 2 _ _ _ _ A535 ((idx l87 x96).length) c536 (idx l87 x96) ([a1.Arg] : List Int) b543 0 1 1 [vI a1.Arg] 0 [] [1, 2, 3, 4, 5, 6, 7, 8] [] [.blk b0z 123 [vS A82 l81.length c83, vS (some ⟨b108, 0, none⟩) l84.length c86, vS (some ⟨b468, 0, none⟩) l87.length c89, vS A91 l90.length c92, vS A94 l93.length c95], .row tStr 9 A82 l81.length c83 l81, .row (tInt .i64) 3 (some ⟨b108, 0, none⟩) l84.length c86 l84, .row (tOpt (tSlice 2 (tInt .i64))) 35 (some ⟨b468, 0, none⟩) l87.length c89 ((l87.map Sum.inl).set x96.toNat (Sum.inr [vS A535 ((idx l87 x96).length) c536])), .row (tInt .i64) 3 A91 l90.length c92 l90, .row (tInt .i64) 3 A94 l93.length c95 l93, .blk b2 89 [vI a1.Kind, .string a1.Key, vI a1.Arg, vB a1.Got, vS A1z0 a1.Vals.length c1z0], .blk b543 2 [vI a1.Arg]] rfl (by kernel_rfl) (by kernel_rfl) rfl rfl rfl rfl rfl (by kernel_rfl) hI (by decide) rfl rfl rfl (hI.grp 8 rfl) g529 (mks_cons (mk_flat (k := (tInt .i64)) a1.Arg [vI a1.Arg] rfl) mks_nil) ?_)
                clear hI
                intro A547 c548 _ hI
                replace hI := hI.pick (L' := [.row (tInt .i64) 2 A547 (((idx l87 x96) ++ ([a1.Arg] : List Int)).length) c548 ((idx l87 x96) ++ ([a1.Arg] : List Int)), .blk b0z 123 [vS A82 l81.length c83, vS (some ⟨b108, 0, none⟩) l84.length c86, vS (some ⟨b468, 0, none⟩) l87.length c89, vS A91 l90.length c92, vS A94 l93.length c95], .row tStr 9 A82 l81.length c83 l81, .row (tInt .i64) 3 (some ⟨b108, 0, none⟩) l84.length c86 l84, .row (tOpt (tSlice 2 (tInt .i64))) 35 (some ⟨b468, 0, none⟩) l87.length c89 ((l87.map Sum.inl).set x96.toNat (Sum.inr [vS A535 ((idx l87 x96).length) c536])), .row (tInt .i64) 3 A91 l90.length c92 l90, .row (tInt .i64) 3 A94 l93.length c95 l93, .blk b2 89 [vI a1.Kind, .string a1.Key, vI a1.Arg, vB a1.Got, vS A1z0 a1.Vals.length c1z0]]) [0, 1, 2, 3, 4, 5, 6, 7] (by decide) rfl
                refine ⟨(hI.pk [1, 2, 3, 5, 6, 7]), ?_⟩
                refine hx (n := 1) [(16, .x)] (fun _ hS => gO) (hI.pk [1, 2, 3, 5, 6, 7]) _ (bZ g467) ?_
                refine ho (n := 0) 17 rfl (e_putown (kt := tOpt (tSlice 2 (tInt .i64))) 35 _ _ 4 [0] [1, 2, 3, 5, 6, 7] b468 35 l87.length c89 ((l87.map Sum.inl).set x96.toNat (Sum.inr [vS A535 ((idx l87 x96).length) c536])) (Sum.inl ((idx l87 x96) ++ ([a1.Arg] : List Int))) x96 (vS A547 (((idx l87 x96) ++ ([a1.Arg] : List Int)).length) c548) [.row (tInt .i64) 2 A547 (((idx l87 x96) ++ ([a1.Arg] : List Int)).length) c548 ((idx l87 x96) ++ ([a1.Arg] : List Int))] [.blk b0z 123 [vS A82 l81.length c83, vS (some ⟨b108, 0, none⟩) l84.length c86, vS (some ⟨b468, 0, none⟩) l87.length c89, vS A91 l90.length c92, vS A94 l93.length c95], .row tStr 9 A82 l81.length c83 l81, .row (tInt .i64) 3 (some ⟨b108, 0, none⟩) l84.length c86 l84, .row (tInt .i64) 3 A91 l90.length c92 l90, .row (tInt .i64) 3 A94 l93.length c95 l93, .blk b2 89 [vI a1.Kind, .string a1.Key, vI a1.Arg, vB a1.Got, vS A1z0 a1.Vals.length c1z0]] rfl (by kernel_rfl) (by kernel_rfl) (by kernel_rfl) (by kernel_rfl) hI (by decide) rfl g467 mk_row ?_)
                clear hI
                intro _ hI
                replace hI := hI.optback (k := (tSlice 2 (tInt .i64))) 0 (l87.set x96.toNat ((idx l87 x96) ++ ([a1.Arg] : List Int))) rfl set_inl
                refine ⟨(hI.pk [1, 2, 3, 4, 5, 6]), ?_⟩
                refine hd ?_
                replace hI := hI.renum 0 rfl
                replace hI := hI.recell 1 [vS A82 l81.length c83, vS (some ⟨b108, 0, none⟩) l84.length c86, vS (some ⟨b468, 0, none⟩) ((l87.set x96.toNat ((idx l87 x96) ++ ([a1.Arg] : List Int))).length) c89, vS A91 l90.length c92, vS A94 l93.length c95] (by first | rfl | simp only [List.length_set, List.length_replicate, List.length_nil]) rfl
                replace H := out_some H
                obtain ⟨_, H, he1⟩ := H
                have he := (hout1 _ he1).symm
                subst he
                exact hJ222 (l87.set x96.toNat ((idx l87 x96) ++ ([a1.Arg] : List Int))) _ _ ⟨_, (some ⟨b468, 0, none⟩), c89, at_, hI.pick [1, 2, 3, 0, 4, 5, 6] (by decide) rfl⟩ H
              · refine (e_partsS 35 2 1 _ _ _ #[vI a1.Arg] [vI a1.Arg] rfl rfl rfl rfl (by kernel_rfl) (by kernel_rfl) (by kernel_rfl) (by kernel_rfl) hI ?_)
                clear hI
                intro b549 _ hs550 hI
                refine ⟨(hI.pk [0, 1, 2, 4, 5, 6]), ?_⟩
                refine ho (n := 3) 11 rfl (e_read (ops := #[]) [(b468, 0 + x96.toNat * 1, [vS A535 ((idx l87 x96).length) c536])] (.l 0 0) (vS A535 ((idx l87 x96).length) c536) [] ⟨(Lies.mono hg532 hs550).ok, trivial⟩ trivial (by kernel_rfl) (by kernel_rfl) (by kernel_rfl) ⟨(hI.pk [0, 1, 2, 4, 5, 6]), ?_⟩)
                replace hI := hI.takeS (kt := (tInt .i64)) 3 rfl g467 (Lies.ok (Lies.mono hg532 hs550))
                refine ho (n := 2) 15 rfl (e_append (tInt .i64) 35 0 2 _ _ _ _ A535 ((idx l87 x96).length) c536 (idx l87 x96) ([a1.Arg] : List Int) b549 0 1 1 [vI a1.Arg] 0 [] [1, 2, 3, 4, 5, 6, 7, 8] [] [.blk b0z 123 [vS A82 l81.length c83, vS (some ⟨b108, 0, none⟩) l84.length c86, vS (some ⟨b468, 0, none⟩) l87.length c89, vS A91 l90.length c92, vS A94 l93.length c95], .row tStr 9 A82 l81.length c83 l81, .row (tInt .i64) 3 (some ⟨b108, 0, none⟩) l84.length c86 l84, .row (tOpt (tSlice 2 (tInt .i64))) 35 (some ⟨b468, 0, none⟩) l87.length c89 ((l87.map Sum.inl).set x96.toNat (Sum.inr [vS A535 ((idx l87 x96).length) c536])), .row (tInt .i64) 3 A91 l90.length c92 l90, .row (tInt .i64) 3 A94 l93.length c95 l93, .blk b2 89 [vI a1.Kind, .string a1.Key, vI a1.Arg, vB a1.Got, vS A1z0 a1.Vals.length c1z0], .blk b549 2 [vI a1.Arg]] rfl (by kernel_rfl) (by kernel_rfl) rfl rfl rfl rfl rfl (by kernel_rfl) hI (by decide) rfl rfl rfl (hI.grp 8 rfl) g529 (mks_cons (mk_flat (k := (tInt .i64)) a1.Arg [vI a1.Arg] rfl) mks_nil) ?_)
                clear hI
                intro A553 c554 _ hI
                replace hI := hI.pick (L' := [.row (tInt .i64) 2 A553 (((idx l87 x96) ++ ([a1.Arg] : List Int)).length) c554 ((idx l87 x96) ++ ([a1.Arg] : List Int)), .blk b0z 123 [vS A82 l81.length c83, vS (some ⟨b108, 0, none⟩) l84.length c86, vS (some ⟨b468, 0, none⟩) l87.length c89, vS A91 l90.length c92, vS A94 l93.length c95], .row tStr 9 A82 l81.length c83 l81, .row (tInt .i64) 3 (some ⟨b108, 0, none⟩) l84.length c86 l84, .row (tOpt (tSlice 2 (tInt .i64))) 35 (some ⟨b468, 0, none⟩) l87.length c89 ((l87.map Sum.inl).set x96.toNat (Sum.inr [vS A535 ((idx l87 x96).length) c536])), .row (tInt .i64) 3 A91 l90.length c92 l90, .row (tInt .i64) 3 A94 l93.length c95 l93, .blk b2 89 [vI a1.Kind, .string a1.Key, vI a1.Arg, vB a1.Got, vS A1z0 a1.Vals.length c1z0]]) [0, 1, 2, 3, 4, 5, 6, 7] (by decide) rfl
                refine ⟨(hI.pk [1, 2, 3, 5, 6, 7]), ?_⟩
                refine hx (n := 1) [(16, .x)] (fun _ hS => gO) (hI.pk [1, 2, 3, 5, 6, 7]) _ (bZ g467) ?_
                refine ho (n := 0) 17 rfl (e_putown (kt := tOpt (tSlice 2 (tInt .i64))) 35 _ _ 4 [0] [1, 2, 3, 5, 6, 7] b468 35 l87.length c89 ((l87.map Sum.inl).set x96.toNat (Sum.inr [vS A535 ((idx l87 x96).length) c536])) (Sum.inl ((idx l87 x96) ++ ([a1.Arg] : List Int))) x96 (vS A553 (((idx l87 x96) ++ ([a1.Arg] : List Int)).length) c554) [.row (tInt .i64) 2 A553 (((idx l87 x96) ++ ([a1.Arg] : List Int)).length) c554 ((idx l87 x96) ++ ([a1.Arg] : List Int))] [.blk b0z 123 [vS A82 l81.length c83, vS (some ⟨b108, 0, none⟩) l84.length c86, vS (some ⟨b468, 0, none⟩) l87.length c89, vS A91 l90.length c92, vS A94 l93.length c95], .row tStr 9 A82 l81.length c83 l81, .row (tInt .i64) 3 (some ⟨b108, 0, none⟩) l84.length c86 l84, .row (tInt .i64) 3 A91 l90.length c92 l90, .row (tInt .i64) 3 A94 l93.length c95 l93, .blk b2 89 [vI a1.Kind, .string a1.Key, vI a1.Arg, vB a1.Got, vS A1z0 a1.Vals.length c1z0]] rfl (by kernel_rfl) (by kernel_rfl) (by kernel_rfl) (by kernel_rfl) hI (by decide) rfl g467 mk_row ?_)
                clear hI
                intro _ hI
                replace hI := hI.optback (k := (tSlice 2 (tInt .i64))) 0 (l87.set x96.toNat ((idx l87 x96) ++ ([a1.Arg] : List Int))) rfl set_inl
                refine ⟨(hI.pk [1, 2, 3, 4, 5, 6]), ?_⟩
                refine hd ?_
                replace hI := hI.renum 0 rfl
                replace hI := hI.recell 1 [vS A82 l81.length c83, vS (some ⟨b108, 0, none⟩) l84.length c86, vS (some ⟨b468, 0, none⟩) ((l87.set x96.toNat ((idx l87 x96) ++ ([a1.Arg] : List Int))).length) c89, vS A91 l90.length c92, vS A94 l93.length c95] (by first | rfl | simp only [List.length_set, List.length_replicate, List.length_nil]) rfl
                replace H := out_some H
                obtain ⟨_, H, he1⟩ := H
                have he := (hout1 _ he1).symm
                subst he
                exact hJ222 (l87.set x96.toNat ((idx l87 x96) ++ ([a1.Arg] : List Int))) _ _ ⟨_, (some ⟨b468, 0, none⟩), c89, at_, hI.pick [1, 2, 3, 0, 4, 5, 6] (by decide) rfl⟩ H
          · refine ge hc261 (go_skip ?_)
            exact hJ222 l87 _ _ ⟨_, A88, c89, at_, hI⟩ H
        · refine r_in ?_
          replace H := cond_some H
          rcases H with ⟨hc555, H⟩ | ⟨hc555, H⟩
          · refine bx 0 [.p, .l 0 0, .p, .c true, .p, .p, .p, .p] (gA (hI.grp 6 rfl)) _ (bZ (bndEq hc555)) (ro ?_)
            exact hJ260 true _ _ ⟨_, at_, hI⟩ H
          · refine bx 0 [.p, .l 0 0, .p, .c false, .p, .l 0 0, .p, .p] (gA (hI.grp 6 rfl)) _ (bZ (bndEq hc555)) (ro ?_)
            exact hJ260 (a1.Kind == 3) _ _ ⟨_, at_, hI⟩ H
  · refine go_seq (rp 2 ?_)
    replace H := cond_some H
    rcases H with ⟨hc556, H⟩ | ⟨hc556, H⟩
    · refine gt hc556 (go_seq (go_seq (rg [.p, .p, .p, .l 0 0, .p, .p] (gA (hI.grp 0 rfl)) ?_)))
      replace H := cond_some H
      rcases H with ⟨hc558, H⟩ | ⟨hc558, H⟩
      · refine gt hc558 (go_seq (rp 1 ?_))
        replace H := Option.some.inj H
        subst H
        exact gr Try.func67 ⟨A0z0, c0z0, A0z1, c0z1, A0z2, c0z2, A0z3, c0z3, A0z4, c0z4, rfl, hI.pick [0, 1, 2, 3, 4, 5] (by decide) rfl⟩
      · refine ge hc558 (go_skip (go_seq (rg [.p, .p, .p, .l 0 0, .p, .p] (gA (hI.grp 0 rfl)) ?_)))
        refine go_seq_join (o := r) (fun (_ : Unit) f w => ∃ (j : Nat → Value) (A580 : Option Addr) (c581 : Nat), f = updL j [(0, vP b0z 0), (2, vI a2), (4, vP b2 0), (7, vI (a0.keys.length : Int))] ∧ Inv M w [.blk b0z 123 [vS A580 ((a0.keys ++ ([a1.Key] : List ByteArray)).length) c581, vS A0z1 a0.types.length c0z1, vS A0z2 a0.wrote.length c0z2, vS A0z3 a0.incs.length c0z3, vS A0z4 a0.last_.length c0z4], .row tStr 9 A580 ((a0.keys ++ ([a1.Key] : List ByteArray)).length) c581 (a0.keys ++ ([a1.Key] : List ByteArray)), .row (tInt .i64) 3 A0z1 a0.types.length c0z1 a0.types, .row (tSlice 2 (tInt .i64)) 35 A0z2 a0.wrote.length c0z2 a0.wrote, .row (tInt .i64) 3 A0z3 a0.incs.length c0z3 a0.incs, .row (tInt .i64) 3 A0z4 a0.last_.length c0z4 a0.last_, .blk b2 89 [vI a1.Kind, .string a1.Key, vI a1.Arg, vB a1.Got, vS A1z0 a1.Vals.length c1z0]]) (fun (_ : Unit) => assizeref05zbook_enter.j7 a0 a1 a2) ?_ (fun hJ582 => ?_)
        · clear H hI
          rintro ⟨⟩ _ _ ⟨_, A580, c581, rfl, hI⟩ H
          refine go_seq_join (o := r) (fun l614 f w => ∃ (j : Nat → Value) (A615 : Option Addr) (c616 : Nat), f = updL j [(0, vP b0z 0), (2, vI a2), (4, vP b2 0), (7, vI (a0.keys.length : Int))] ∧ Inv M w [.blk b0z 123 [vS A580 ((a0.keys ++ ([a1.Key] : List ByteArray)).length) c581, vS A615 l614.length c616, vS A0z2 a0.wrote.length c0z2, vS A0z3 a0.incs.length c0z3, vS A0z4 a0.last_.length c0z4], .row tStr 9 A580 ((a0.keys ++ ([a1.Key] : List ByteArray)).length) c581 (a0.keys ++ ([a1.Key] : List ByteArray)), .row (tInt .i64) 3 A615 l614.length c616 l614, .row (tSlice 2 (tInt .i64)) 35 A0z2 a0.wrote.length c0z2 a0.wrote, .row (tInt .i64) 3 A0z3 a0.incs.length c0z3 a0.incs, .row (tInt .i64) 3 A0z4 a0.last_.length c0z4 a0.last_, .blk b2 89 [vI a1.Kind, .string a1.Key, vI a1.Arg, vB a1.Got, vS A1z0 a1.Vals.length c1z0]]) (fun l614 => assizeref05zbook_enter.j8 a0 a1 a2 l614) ?_ (fun hJ617 => ?_)
          · clear H hI
            rintro l614 _ _ ⟨_, A615, c616, rfl, hI⟩ H
            refine go_seq (r_in (bg 0 [.p, .p, .p, .p, .l 0 2] (gA (hI.grp 0 rfl)) (oe 5 rfl ?_)))
            refine e_partsS 121 35 1 _ _ _ #[vS none 0 0] [vS none 0 0] rfl rfl rfl rfl (by kernel_rfl) (by kernel_rfl) (by kernel_rfl) (by kernel_rfl) hI ?_
            clear hI
            intro b623 _ hs624 hI
            replace H := must_some H
            obtain ⟨g625, H⟩ := H
            refine oe 6 rfl ?_
            refine e_append (tSlice 2 (tInt .i64)) 121 0 35 _ _ _ _ A0z2 a0.wrote.length c0z2 a0.wrote ([([] : List Int)] : List (List Int)) b623 0 1 1 [vS none 0 0] 3 [] [0, 1, 2, 4, 5, 6, 7] [] [.blk b0z 123 [vS A580 ((a0.keys ++ ([a1.Key] : List ByteArray)).length) c581, vS A615 l614.length c616, vS A0z2 a0.wrote.length c0z2, vS A0z3 a0.incs.length c0z3, vS A0z4 a0.last_.length c0z4], .row tStr 9 A580 ((a0.keys ++ ([a1.Key] : List ByteArray)).length) c581 (a0.keys ++ ([a1.Key] : List ByteArray)), .row (tInt .i64) 3 A615 l614.length c616 l614, .row (tInt .i64) 3 A0z3 a0.incs.length c0z3 a0.incs, .row (tInt .i64) 3 A0z4 a0.last_.length c0z4 a0.last_, .blk b2 89 [vI a1.Kind, .string a1.Key, vI a1.Arg, vB a1.Got, vS A1z0 a1.Vals.length c1z0], .blk b623 35 [vS none 0 0]] rfl (by kernel_rfl) (by kernel_rfl) rfl rfl rfl rfl rfl (by kernel_rfl) hI (by decide) rfl rfl rfl (hI.grp 7 rfl) g625 (mks_cons mk_nil mks_nil) ?_
            clear hI
            intro A626 c627 _ hI
            replace hI := hI.pick (L' := [.row (tSlice 2 (tInt .i64)) 35 A626 ((a0.wrote ++ ([([] : List Int)] : List (List Int))).length) c627 (a0.wrote ++ ([([] : List Int)] : List (List Int))), .blk b0z 123 [vS A580 ((a0.keys ++ ([a1.Key] : List ByteArray)).length) c581, vS A615 l614.length c616, vS A0z2 a0.wrote.length c0z2, vS A0z3 a0.incs.length c0z3, vS A0z4 a0.last_.length c0z4], .row tStr 9 A580 ((a0.keys ++ ([a1.Key] : List ByteArray)).length) c581 (a0.keys ++ ([a1.Key] : List ByteArray)), .row (tInt .i64) 3 A615 l614.length c616 l614, .row (tInt .i64) 3 A0z3 a0.incs.length c0z3 a0.incs, .row (tInt .i64) 3 A0z4 a0.last_.length c0z4 a0.last_, .blk b2 89 [vI a1.Kind, .string a1.Key, vI a1.Arg, vB a1.Got, vS A1z0 a1.Vals.length c1z0]]) [0, 1, 2, 3, 4, 5, 6] (by decide) rfl
            refine bp 7 2 (oe 9 rfl ?_)
            refine e_store 121 _ _ 1 b0z 123 [vS A580 ((a0.keys ++ ([a1.Key] : List ByteArray)).length) c581, vS A615 l614.length c616, vS A0z2 a0.wrote.length c0z2, vS A0z3 a0.incs.length c0z3, vS A0z4 a0.last_.length c0z4] [vS A580 ((a0.keys ++ ([a1.Key] : List ByteArray)).length) c581, vS A615 l614.length c616, vS A626 ((a0.wrote ++ ([([] : List Int)] : List (List Int))).length) c627, vS A0z3 a0.incs.length c0z3, vS A0z4 a0.last_.length c0z4] 2 (vS A626 ((a0.wrote ++ ([([] : List Int)] : List (List Int))).length) c627) rfl (by kernel_rfl) (by kernel_rfl) (by kernel_rfl) (by kernel_rfl) hI rfl (by kernel_rfl) (by kernel_rfl) ?_
            clear hI
            intro _ hI
            refine ro (go_seq (r_in (bg 0 [.p, .p, .p, .p, .l 0 3] (gA (hI.grp 1 rfl)) (oe 5 rfl ?_))))
            refine e_partsS 32 3 1 _ _ _ #[vI 0] [vI 0] rfl rfl rfl rfl (by kernel_rfl) (by kernel_rfl) (by kernel_rfl) (by kernel_rfl) hI ?_
            clear hI
            intro b633 _ hs634 hI
            replace H := must_some H
            obtain ⟨g635, H⟩ := H
            refine oe 6 rfl ?_
            refine e_append (tInt .i64) 32 0 3 _ _ _ _ A0z3 a0.incs.length c0z3 a0.incs ([0] : List Int) b633 0 1 1 [vI 0] 4 [] [0, 1, 2, 3, 5, 6, 7] [] [.row (tSlice 2 (tInt .i64)) 35 A626 ((a0.wrote ++ ([([] : List Int)] : List (List Int))).length) c627 (a0.wrote ++ ([([] : List Int)] : List (List Int))), .blk b0z 123 [vS A580 ((a0.keys ++ ([a1.Key] : List ByteArray)).length) c581, vS A615 l614.length c616, vS A626 ((a0.wrote ++ ([([] : List Int)] : List (List Int))).length) c627, vS A0z3 a0.incs.length c0z3, vS A0z4 a0.last_.length c0z4], .row tStr 9 A580 ((a0.keys ++ ([a1.Key] : List ByteArray)).length) c581 (a0.keys ++ ([a1.Key] : List ByteArray)), .row (tInt .i64) 3 A615 l614.length c616 l614, .row (tInt .i64) 3 A0z4 a0.last_.length c0z4 a0.last_, .blk b2 89 [vI a1.Kind, .string a1.Key, vI a1.Arg, vB a1.Got, vS A1z0 a1.Vals.length c1z0], .blk b633 3 [vI 0]] rfl (by kernel_rfl) (by kernel_rfl) rfl rfl rfl rfl rfl (by kernel_rfl) hI (by decide) rfl rfl rfl (hI.grp 7 rfl) g635 (mks_cons (mk_flat (k := (tInt .i64)) 0 [vI 0] rfl) mks_nil) ?_
            clear hI
            intro A636 c637 _ hI
            replace hI := hI.pick (L' := [.row (tInt .i64) 3 A636 ((a0.incs ++ ([0] : List Int)).length) c637 (a0.incs ++ ([0] : List Int)), .row (tSlice 2 (tInt .i64)) 35 A626 ((a0.wrote ++ ([([] : List Int)] : List (List Int))).length) c627 (a0.wrote ++ ([([] : List Int)] : List (List Int))), .blk b0z 123 [vS A580 ((a0.keys ++ ([a1.Key] : List ByteArray)).length) c581, vS A615 l614.length c616, vS A626 ((a0.wrote ++ ([([] : List Int)] : List (List Int))).length) c627, vS A0z3 a0.incs.length c0z3, vS A0z4 a0.last_.length c0z4], .row tStr 9 A580 ((a0.keys ++ ([a1.Key] : List ByteArray)).length) c581 (a0.keys ++ ([a1.Key] : List ByteArray)), .row (tInt .i64) 3 A615 l614.length c616 l614, .row (tInt .i64) 3 A0z4 a0.last_.length c0z4 a0.last_, .blk b2 89 [vI a1.Kind, .string a1.Key, vI a1.Arg, vB a1.Got, vS A1z0 a1.Vals.length c1z0]]) [0, 1, 2, 3, 4, 5, 6] (by decide) rfl
            refine bp 7 2 (oe 9 rfl ?_)
            refine e_store 32 _ _ 2 b0z 123 [vS A580 ((a0.keys ++ ([a1.Key] : List ByteArray)).length) c581, vS A615 l614.length c616, vS A626 ((a0.wrote ++ ([([] : List Int)] : List (List Int))).length) c627, vS A0z3 a0.incs.length c0z3, vS A0z4 a0.last_.length c0z4] [vS A580 ((a0.keys ++ ([a1.Key] : List ByteArray)).length) c581, vS A615 l614.length c616, vS A626 ((a0.wrote ++ ([([] : List Int)] : List (List Int))).length) c627, vS A636 ((a0.incs ++ ([0] : List Int)).length) c637, vS A0z4 a0.last_.length c0z4] 3 (vS A636 ((a0.incs ++ ([0] : List Int)).length) c637) rfl (by kernel_rfl) (by kernel_rfl) (by kernel_rfl) (by kernel_rfl) hI rfl (by kernel_rfl) (by kernel_rfl) ?_
            clear hI
            intro _ hI
            refine ro (r_in (bg 0 [.p, .p, .p, .p, .l 0 4] (gA (hI.grp 2 rfl)) (oe 5 rfl ?_)))
            refine e_partsS 32 3 1 _ _ _ #[vI (-1)] [vI (-1)] rfl rfl rfl rfl (by kernel_rfl) (by kernel_rfl) (by kernel_rfl) (by kernel_rfl) hI ?_
            clear hI
            intro b638 _ hs639 hI
            replace H := must_some H
            obtain ⟨g640, H⟩ := H
            refine oe 6 rfl ?_
            refine e_append (tInt .i64) 32 0 3 _ _ _ _ A0z4 a0.last_.length c0z4 a0.last_ ([(-1)] : List Int) b638 0 1 1 [vI (-1)] 5 [] [0, 1, 2, 3, 4, 6, 7] [] [.row (tInt .i64) 3 A636 ((a0.incs ++ ([0] : List Int)).length) c637 (a0.incs ++ ([0] : List Int)), .row (tSlice 2 (tInt .i64)) 35 A626 ((a0.wrote ++ ([([] : List Int)] : List (List Int))).length) c627 (a0.wrote ++ ([([] : List Int)] : List (List Int))), .blk b0z 123 [vS A580 ((a0.keys ++ ([a1.Key] : List ByteArray)).length) c581, vS A615 l614.length c616, vS A626 ((a0.wrote ++ ([([] : List Int)] : List (List Int))).length) c627, vS A636 ((a0.incs ++ ([0] : List Int)).length) c637, vS A0z4 a0.last_.length c0z4], .row tStr 9 A580 ((a0.keys ++ ([a1.Key] : List ByteArray)).length) c581 (a0.keys ++ ([a1.Key] : List ByteArray)), .row (tInt .i64) 3 A615 l614.length c616 l614, .blk b2 89 [vI a1.Kind, .string a1.Key, vI a1.Arg, vB a1.Got, vS A1z0 a1.Vals.length c1z0], .blk b638 3 [vI (-1)]] rfl (by kernel_rfl) (by kernel_rfl) rfl rfl rfl rfl rfl (by kernel_rfl) hI (by decide) rfl rfl rfl (hI.grp 7 rfl) g640 (mks_cons (mk_flat (k := (tInt .i64)) (-1) [vI (-1)] rfl) mks_nil) ?_
            clear hI
            intro A641 c642 _ hI
            replace hI := hI.pick (L' := [.row (tInt .i64) 3 A641 ((a0.last_ ++ ([(-1)] : List Int)).length) c642 (a0.last_ ++ ([(-1)] : List Int)), .row (tInt .i64) 3 A636 ((a0.incs ++ ([0] : List Int)).length) c637 (a0.incs ++ ([0] : List Int)), .row (tSlice 2 (tInt .i64)) 35 A626 ((a0.wrote ++ ([([] : List Int)] : List (List Int))).length) c627 (a0.wrote ++ ([([] : List Int)] : List (List Int))), .blk b0z 123 [vS A580 ((a0.keys ++ ([a1.Key] : List ByteArray)).length) c581, vS A615 l614.length c616, vS A626 ((a0.wrote ++ ([([] : List Int)] : List (List Int))).length) c627, vS A636 ((a0.incs ++ ([0] : List Int)).length) c637, vS A0z4 a0.last_.length c0z4], .row tStr 9 A580 ((a0.keys ++ ([a1.Key] : List ByteArray)).length) c581 (a0.keys ++ ([a1.Key] : List ByteArray)), .row (tInt .i64) 3 A615 l614.length c616 l614, .blk b2 89 [vI a1.Kind, .string a1.Key, vI a1.Arg, vB a1.Got, vS A1z0 a1.Vals.length c1z0]]) [0, 1, 2, 3, 4, 5, 6] (by decide) rfl
            refine bp 7 2 (oe 9 rfl ?_)
            refine e_store 32 _ _ 3 b0z 123 [vS A580 ((a0.keys ++ ([a1.Key] : List ByteArray)).length) c581, vS A615 l614.length c616, vS A626 ((a0.wrote ++ ([([] : List Int)] : List (List Int))).length) c627, vS A636 ((a0.incs ++ ([0] : List Int)).length) c637, vS A0z4 a0.last_.length c0z4] [vS A580 ((a0.keys ++ ([a1.Key] : List ByteArray)).length) c581, vS A615 l614.length c616, vS A626 ((a0.wrote ++ ([([] : List Int)] : List (List Int))).length) c627, vS A636 ((a0.incs ++ ([0] : List Int)).length) c637, vS A641 ((a0.last_ ++ ([(-1)] : List Int)).length) c642] 4 (vS A641 ((a0.last_ ++ ([(-1)] : List Int)).length) c642) rfl (by kernel_rfl) (by kernel_rfl) (by kernel_rfl) (by kernel_rfl) hI rfl (by kernel_rfl) (by kernel_rfl) ?_
            clear hI
            intro _ hI
            refine ro ?_
            exact hJ97 (a0.keys ++ ([a1.Key] : List ByteArray), l614, a0.wrote ++ ([([] : List Int)] : List (List Int)), a0.incs ++ ([0] : List Int), a0.last_ ++ ([(-1)] : List Int), (a0.keys.length : Int)) _ _ ⟨_, A580, c581, A615, c616, A626, c627, A636, c637, A641, c642, at_, hI.pick [3, 4, 5, 2, 1, 0, 6] (by decide) rfl⟩ H
          · replace H := bind_some H
            obtain ⟨y643, hy644, H⟩ := H
            replace H := must_some H
            obtain ⟨g647, H⟩ := H
            refine go_held (fun w => Inv M w [.row tStr 9 A580 ((a0.keys ++ ([a1.Key] : List ByteArray)).length) c581 (a0.keys ++ ([a1.Key] : List ByteArray)), .row (tSlice 2 (tInt .i64)) 35 A0z2 a0.wrote.length c0z2 a0.wrote, .row (tInt .i64) 3 A0z3 a0.incs.length c0z3 a0.incs, .row (tInt .i64) 3 A0z4 a0.last_.length c0z4 a0.last_, .blk b2 89 [vI a1.Kind, .string a1.Key, vI a1.Arg, vB a1.Got, vS A1z0 a1.Vals.length c1z0]]) (by kernel_rfl) ?_
            replace hI := hI.drew'
            refine hg (n := 7) [(0, .p), (1, .p), (2, .p), (3, .p), (5, .p), (6, .l 0 0)] (fun _ hS => (gA (hS.grp 4 rfl))) (hI.pk [1, 3, 4, 5, 6]) ?_
            refine held_each (n := 6) [4, 7] (by simp) (by kernel_rfl) ⟨⟨_, rfl, by kernel_rfl, ?_⟩, ⟨_, rfl, by kernel_rfl, ?_⟩, trivial⟩
            · refine (e_read (ops := #[]) [(b0z, 0, [vS A580 ((a0.keys ++ ([a1.Key] : List ByteArray)).length) c581, vS A0z1 a0.types.length c0z1, vS A0z2 a0.wrote.length c0z2, vS A0z3 a0.incs.length c0z3, vS A0z4 a0.last_.length c0z4])] (.l 0 1) (vS A0z1 a0.types.length c0z1) [] ⟨(hI.grp 0 rfl), trivial⟩ trivial (by kernel_rfl) (by kernel_rfl) (by kernel_rfl) ⟨(hI.pk [1, 3, 4, 5, 6]), ?_⟩)
              refine ho (n := 5) 7 rfl (ec (enter87 _) (assizeref05zOf_calls a1.Kind (memOf _) _ (Inv.start _) _ hy644) ?_)
              rintro _ _ ⟨rfl, hI'⟩
              replace hI := hI.call0 hI'
              clear hI'
              refine ⟨_, rfl, ?_⟩
              refine ⟨(hI.pk [1, 3, 4, 5, 6]), ?_⟩
              refine ho (n := 4) 8 rfl (e_partsS 32 3 1 _ _ _ #[vI y643] [vI y643] rfl rfl rfl rfl (by kernel_rfl) (by kernel_rfl) (by kernel_rfl) (by kernel_rfl) hI ?_)
              clear hI
              intro b652 _ hs653 hI
              refine ⟨(hI.pk [1, 3, 4, 5, 6]), ?_⟩
              refine ho (n := 3) 9 rfl (e_append (tInt .i64) 32 0 3 _ _ _ _ A0z1 a0.types.length c0z1 a0.types ([y643] : List Int) b652 0 1 1 [vI y643] 2 [] [0, 1, 3, 4, 5, 6, 7] [] [.blk b0z 123 [vS A580 ((a0.keys ++ ([a1.Key] : List ByteArray)).length) c581, vS A0z1 a0.types.length c0z1, vS A0z2 a0.wrote.length c0z2, vS A0z3 a0.incs.length c0z3, vS A0z4 a0.last_.length c0z4], .row tStr 9 A580 ((a0.keys ++ ([a1.Key] : List ByteArray)).length) c581 (a0.keys ++ ([a1.Key] : List ByteArray)), .row (tSlice 2 (tInt .i64)) 35 A0z2 a0.wrote.length c0z2 a0.wrote, .row (tInt .i64) 3 A0z3 a0.incs.length c0z3 a0.incs, .row (tInt .i64) 3 A0z4 a0.last_.length c0z4 a0.last_, .blk b2 89 [vI a1.Kind, .string a1.Key, vI a1.Arg, vB a1.Got, vS A1z0 a1.Vals.length c1z0], .blk b652 3 [vI y643]] rfl (by kernel_rfl) (by kernel_rfl) rfl rfl rfl rfl rfl (by kernel_rfl) hI (by decide) rfl rfl rfl (hI.grp 7 rfl) g647 (mks_cons (mk_flat (k := (tInt .i64)) y643 [vI y643] rfl) mks_nil) ?_)
              clear hI
              intro A656 c657 _ hI
              replace hI := hI.pick (L' := [.row (tInt .i64) 3 A656 ((a0.types ++ ([y643] : List Int)).length) c657 (a0.types ++ ([y643] : List Int)), .blk b0z 123 [vS A580 ((a0.keys ++ ([a1.Key] : List ByteArray)).length) c581, vS A0z1 a0.types.length c0z1, vS A0z2 a0.wrote.length c0z2, vS A0z3 a0.incs.length c0z3, vS A0z4 a0.last_.length c0z4], .row tStr 9 A580 ((a0.keys ++ ([a1.Key] : List ByteArray)).length) c581 (a0.keys ++ ([a1.Key] : List ByteArray)), .row (tSlice 2 (tInt .i64)) 35 A0z2 a0.wrote.length c0z2 a0.wrote, .row (tInt .i64) 3 A0z3 a0.incs.length c0z3 a0.incs, .row (tInt .i64) 3 A0z4 a0.last_.length c0z4 a0.last_, .blk b2 89 [vI a1.Kind, .string a1.Key, vI a1.Arg, vB a1.Got, vS A1z0 a1.Vals.length c1z0]]) [0, 1, 2, 3, 4, 5, 6] (by decide) rfl
              refine ⟨(hI.pk [2, 3, 4, 5, 6]), ?_⟩
              refine hg (n := 1) [(10, .p), (11, .p)] (fun _ hS => gO) (hI.pk [2, 3, 4, 5, 6]) ?_
              refine ho (n := 0) 12 rfl (e_store 32 _ _ 1 b0z 123 [vS A580 ((a0.keys ++ ([a1.Key] : List ByteArray)).length) c581, vS A0z1 a0.types.length c0z1, vS A0z2 a0.wrote.length c0z2, vS A0z3 a0.incs.length c0z3, vS A0z4 a0.last_.length c0z4] [vS A580 ((a0.keys ++ ([a1.Key] : List ByteArray)).length) c581, vS A656 ((a0.types ++ ([y643] : List Int)).length) c657, vS A0z2 a0.wrote.length c0z2, vS A0z3 a0.incs.length c0z3, vS A0z4 a0.last_.length c0z4] 1 (vS A656 ((a0.types ++ ([y643] : List Int)).length) c657) rfl (by kernel_rfl) (by kernel_rfl) (by kernel_rfl) (by kernel_rfl) hI rfl (by kernel_rfl) (by kernel_rfl) ?_)
              clear hI
              intro _ hI
              refine ⟨(hI.pk [2, 3, 4, 5, 6]), ?_⟩
              refine hd ?_
              exact hJ617 (a0.types ++ ([y643] : List Int)) _ _ ⟨_, A656, c657, at_, hI.pick [1, 2, 0, 3, 4, 5, 6] (by decide) rfl⟩ H
            · refine (e_callf _ _ _ 87 #[] #[] #[vI a1.Kind] #[vI a1.Kind] rfl (by kernel_rfl) (by kernel_rfl) (by kernel_rfl) (enter87 _) (assizeref05zOf_calls a1.Kind (memOf _) _ (Inv.start _) _ hy644) ?_)
              rintro _ _ ⟨rfl, hI'⟩
              replace hI := hI.call0 hI'
              clear hI'
              refine ⟨_, rfl, ?_⟩
              refine ⟨(hI.pk [1, 3, 4, 5, 6]), ?_⟩
              refine held_each (n := 5) [4, 8] (by simp) (by kernel_rfl) ⟨⟨_, rfl, by kernel_rfl, ?_⟩, ⟨_, rfl, by kernel_rfl, ?_⟩, trivial⟩
              · refine (e_read (ops := #[]) [(b0z, 0, [vS A580 ((a0.keys ++ ([a1.Key] : List ByteArray)).length) c581, vS A0z1 a0.types.length c0z1, vS A0z2 a0.wrote.length c0z2, vS A0z3 a0.incs.length c0z3, vS A0z4 a0.last_.length c0z4])] (.l 0 1) (vS A0z1 a0.types.length c0z1) [] ⟨(hI.grp 0 rfl), trivial⟩ trivial (by kernel_rfl) (by kernel_rfl) (by kernel_rfl) ⟨(hI.pk [1, 3, 4, 5, 6]), ?_⟩)
                refine ho (n := 4) 8 rfl (e_partsS 32 3 1 _ _ _ #[vI y643] [vI y643] rfl rfl rfl rfl (by kernel_rfl) (by kernel_rfl) (by kernel_rfl) (by kernel_rfl) hI ?_)
                clear hI
                intro b662 _ hs663 hI
                refine ⟨(hI.pk [1, 3, 4, 5, 6]), ?_⟩
                refine ho (n := 3) 9 rfl (e_append (tInt .i64) 32 0 3 _ _ _ _ A0z1 a0.types.length c0z1 a0.types ([y643] : List Int) b662 0 1 1 [vI y643] 2 [] [0, 1, 3, 4, 5, 6, 7] [] [.blk b0z 123 [vS A580 ((a0.keys ++ ([a1.Key] : List ByteArray)).length) c581, vS A0z1 a0.types.length c0z1, vS A0z2 a0.wrote.length c0z2, vS A0z3 a0.incs.length c0z3, vS A0z4 a0.last_.length c0z4], .row tStr 9 A580 ((a0.keys ++ ([a1.Key] : List ByteArray)).length) c581 (a0.keys ++ ([a1.Key] : List ByteArray)), .row (tSlice 2 (tInt .i64)) 35 A0z2 a0.wrote.length c0z2 a0.wrote, .row (tInt .i64) 3 A0z3 a0.incs.length c0z3 a0.incs, .row (tInt .i64) 3 A0z4 a0.last_.length c0z4 a0.last_, .blk b2 89 [vI a1.Kind, .string a1.Key, vI a1.Arg, vB a1.Got, vS A1z0 a1.Vals.length c1z0], .blk b662 3 [vI y643]] rfl (by kernel_rfl) (by kernel_rfl) rfl rfl rfl rfl rfl (by kernel_rfl) hI (by decide) rfl rfl rfl (hI.grp 7 rfl) g647 (mks_cons (mk_flat (k := (tInt .i64)) y643 [vI y643] rfl) mks_nil) ?_)
                clear hI
                intro A666 c667 _ hI
                replace hI := hI.pick (L' := [.row (tInt .i64) 3 A666 ((a0.types ++ ([y643] : List Int)).length) c667 (a0.types ++ ([y643] : List Int)), .blk b0z 123 [vS A580 ((a0.keys ++ ([a1.Key] : List ByteArray)).length) c581, vS A0z1 a0.types.length c0z1, vS A0z2 a0.wrote.length c0z2, vS A0z3 a0.incs.length c0z3, vS A0z4 a0.last_.length c0z4], .row tStr 9 A580 ((a0.keys ++ ([a1.Key] : List ByteArray)).length) c581 (a0.keys ++ ([a1.Key] : List ByteArray)), .row (tSlice 2 (tInt .i64)) 35 A0z2 a0.wrote.length c0z2 a0.wrote, .row (tInt .i64) 3 A0z3 a0.incs.length c0z3 a0.incs, .row (tInt .i64) 3 A0z4 a0.last_.length c0z4 a0.last_, .blk b2 89 [vI a1.Kind, .string a1.Key, vI a1.Arg, vB a1.Got, vS A1z0 a1.Vals.length c1z0]]) [0, 1, 2, 3, 4, 5, 6] (by decide) rfl
                refine ⟨(hI.pk [2, 3, 4, 5, 6]), ?_⟩
                refine hg (n := 1) [(10, .p), (11, .p)] (fun _ hS => gO) (hI.pk [2, 3, 4, 5, 6]) ?_
                refine ho (n := 0) 12 rfl (e_store 32 _ _ 1 b0z 123 [vS A580 ((a0.keys ++ ([a1.Key] : List ByteArray)).length) c581, vS A0z1 a0.types.length c0z1, vS A0z2 a0.wrote.length c0z2, vS A0z3 a0.incs.length c0z3, vS A0z4 a0.last_.length c0z4] [vS A580 ((a0.keys ++ ([a1.Key] : List ByteArray)).length) c581, vS A666 ((a0.types ++ ([y643] : List Int)).length) c667, vS A0z2 a0.wrote.length c0z2, vS A0z3 a0.incs.length c0z3, vS A0z4 a0.last_.length c0z4] 1 (vS A666 ((a0.types ++ ([y643] : List Int)).length) c667) rfl (by kernel_rfl) (by kernel_rfl) (by kernel_rfl) (by kernel_rfl) hI rfl (by kernel_rfl) (by kernel_rfl) ?_)
                clear hI
                intro _ hI
                refine ⟨(hI.pk [2, 3, 4, 5, 6]), ?_⟩
                refine hd ?_
                exact hJ617 (a0.types ++ ([y643] : List Int)) _ _ ⟨_, A666, c667, at_, hI.pick [1, 2, 0, 3, 4, 5, 6] (by decide) rfl⟩ H
              · refine (e_partsS 32 3 1 _ _ _ #[vI y643] [vI y643] rfl rfl rfl rfl (by kernel_rfl) (by kernel_rfl) (by kernel_rfl) (by kernel_rfl) hI ?_)
                clear hI
                intro b668 _ hs669 hI
                refine ⟨(hI.pk [1, 3, 4, 5, 6]), ?_⟩
                refine ho (n := 4) 4 rfl (e_read (ops := #[]) [(b0z, 0, [vS A580 ((a0.keys ++ ([a1.Key] : List ByteArray)).length) c581, vS A0z1 a0.types.length c0z1, vS A0z2 a0.wrote.length c0z2, vS A0z3 a0.incs.length c0z3, vS A0z4 a0.last_.length c0z4])] (.l 0 1) (vS A0z1 a0.types.length c0z1) [] ⟨(hI.grp 0 rfl), trivial⟩ trivial (by kernel_rfl) (by kernel_rfl) (by kernel_rfl) ⟨(hI.pk [1, 3, 4, 5, 6]), ?_⟩)
                refine ho (n := 3) 9 rfl (e_append (tInt .i64) 32 0 3 _ _ _ _ A0z1 a0.types.length c0z1 a0.types ([y643] : List Int) b668 0 1 1 [vI y643] 2 [] [0, 1, 3, 4, 5, 6, 7] [] [.blk b0z 123 [vS A580 ((a0.keys ++ ([a1.Key] : List ByteArray)).length) c581, vS A0z1 a0.types.length c0z1, vS A0z2 a0.wrote.length c0z2, vS A0z3 a0.incs.length c0z3, vS A0z4 a0.last_.length c0z4], .row tStr 9 A580 ((a0.keys ++ ([a1.Key] : List ByteArray)).length) c581 (a0.keys ++ ([a1.Key] : List ByteArray)), .row (tSlice 2 (tInt .i64)) 35 A0z2 a0.wrote.length c0z2 a0.wrote, .row (tInt .i64) 3 A0z3 a0.incs.length c0z3 a0.incs, .row (tInt .i64) 3 A0z4 a0.last_.length c0z4 a0.last_, .blk b2 89 [vI a1.Kind, .string a1.Key, vI a1.Arg, vB a1.Got, vS A1z0 a1.Vals.length c1z0], .blk b668 3 [vI y643]] rfl (by kernel_rfl) (by kernel_rfl) rfl rfl rfl rfl rfl (by kernel_rfl) hI (by decide) rfl rfl rfl (hI.grp 7 rfl) g647 (mks_cons (mk_flat (k := (tInt .i64)) y643 [vI y643] rfl) mks_nil) ?_)
                clear hI
                intro A672 c673 _ hI
                replace hI := hI.pick (L' := [.row (tInt .i64) 3 A672 ((a0.types ++ ([y643] : List Int)).length) c673 (a0.types ++ ([y643] : List Int)), .blk b0z 123 [vS A580 ((a0.keys ++ ([a1.Key] : List ByteArray)).length) c581, vS A0z1 a0.types.length c0z1, vS A0z2 a0.wrote.length c0z2, vS A0z3 a0.incs.length c0z3, vS A0z4 a0.last_.length c0z4], .row tStr 9 A580 ((a0.keys ++ ([a1.Key] : List ByteArray)).length) c581 (a0.keys ++ ([a1.Key] : List ByteArray)), .row (tSlice 2 (tInt .i64)) 35 A0z2 a0.wrote.length c0z2 a0.wrote, .row (tInt .i64) 3 A0z3 a0.incs.length c0z3 a0.incs, .row (tInt .i64) 3 A0z4 a0.last_.length c0z4 a0.last_, .blk b2 89 [vI a1.Kind, .string a1.Key, vI a1.Arg, vB a1.Got, vS A1z0 a1.Vals.length c1z0]]) [0, 1, 2, 3, 4, 5, 6] (by decide) rfl
                refine ⟨(hI.pk [2, 3, 4, 5, 6]), ?_⟩
                refine hg (n := 1) [(10, .p), (11, .p)] (fun _ hS => gO) (hI.pk [2, 3, 4, 5, 6]) ?_
                refine ho (n := 0) 12 rfl (e_store 32 _ _ 1 b0z 123 [vS A580 ((a0.keys ++ ([a1.Key] : List ByteArray)).length) c581, vS A0z1 a0.types.length c0z1, vS A0z2 a0.wrote.length c0z2, vS A0z3 a0.incs.length c0z3, vS A0z4 a0.last_.length c0z4] [vS A580 ((a0.keys ++ ([a1.Key] : List ByteArray)).length) c581, vS A672 ((a0.types ++ ([y643] : List Int)).length) c673, vS A0z2 a0.wrote.length c0z2, vS A0z3 a0.incs.length c0z3, vS A0z4 a0.last_.length c0z4] 1 (vS A672 ((a0.types ++ ([y643] : List Int)).length) c673) rfl (by kernel_rfl) (by kernel_rfl) (by kernel_rfl) (by kernel_rfl) hI rfl (by kernel_rfl) (by kernel_rfl) ?_)
                clear hI
                intro _ hI
                refine ⟨(hI.pk [2, 3, 4, 5, 6]), ?_⟩
                refine hd ?_
                exact hJ617 (a0.types ++ ([y643] : List Int)) _ _ ⟨_, A672, c673, at_, hI.pick [1, 2, 0, 3, 4, 5, 6] (by decide) rfl⟩ H
        · replace H := must_some H
          obtain ⟨g676, H⟩ := H
          refine go_held (fun w => Inv M w [.row (tInt .i64) 3 A0z1 a0.types.length c0z1 a0.types, .row (tSlice 2 (tInt .i64)) 35 A0z2 a0.wrote.length c0z2 a0.wrote, .row (tInt .i64) 3 A0z3 a0.incs.length c0z3 a0.incs, .row (tInt .i64) 3 A0z4 a0.last_.length c0z4 a0.last_, .blk b2 89 [vI a1.Kind, .string a1.Key, vI a1.Arg, vB a1.Got, vS A1z0 a1.Vals.length c1z0]]) (by kernel_rfl) ?_
          replace hI := hI.drew'
          refine hg (n := 6) [(0, .p), (1, .p), (2, .p), (3, .p), (5, .p), (6, .l 0 1)] (fun _ hS => (gA (hS.grp 4 rfl))) (hI.pk [2, 3, 4, 5, 6]) ?_
          refine held_each (n := 5) [4, 7] (by simp) (by kernel_rfl) ⟨⟨_, rfl, by kernel_rfl, ?_⟩, ⟨_, rfl, by kernel_rfl, ?_⟩, trivial⟩
          · refine (e_read (ops := #[]) [(b0z, 0, [vS A0z0 a0.keys.length c0z0, vS A0z1 a0.types.length c0z1, vS A0z2 a0.wrote.length c0z2, vS A0z3 a0.incs.length c0z3, vS A0z4 a0.last_.length c0z4])] (.l 0 0) (vS A0z0 a0.keys.length c0z0) [] ⟨(hI.grp 0 rfl), trivial⟩ trivial (by kernel_rfl) (by kernel_rfl) (by kernel_rfl) ⟨(hI.pk [2, 3, 4, 5, 6]), ?_⟩)
            refine ho (n := 4) 7 rfl (e_partsS 22 9 1 _ _ _ #[.string a1.Key] [.string a1.Key] rfl rfl rfl rfl (by kernel_rfl) (by kernel_rfl) (by kernel_rfl) (by kernel_rfl) hI ?_)
            clear hI
            intro b683 _ hs684 hI
            refine ⟨(hI.pk [2, 3, 4, 5, 6]), ?_⟩
            refine ho (n := 3) 8 rfl (e_append tStr 22 0 9 _ _ _ _ A0z0 a0.keys.length c0z0 a0.keys ([a1.Key] : List ByteArray) b683 0 1 1 [.string a1.Key] 1 [] [0, 2, 3, 4, 5, 6, 7] [] [.blk b0z 123 [vS A0z0 a0.keys.length c0z0, vS A0z1 a0.types.length c0z1, vS A0z2 a0.wrote.length c0z2, vS A0z3 a0.incs.length c0z3, vS A0z4 a0.last_.length c0z4], .row (tInt .i64) 3 A0z1 a0.types.length c0z1 a0.types, .row (tSlice 2 (tInt .i64)) 35 A0z2 a0.wrote.length c0z2 a0.wrote, .row (tInt .i64) 3 A0z3 a0.incs.length c0z3 a0.incs, .row (tInt .i64) 3 A0z4 a0.last_.length c0z4 a0.last_, .blk b2 89 [vI a1.Kind, .string a1.Key, vI a1.Arg, vB a1.Got, vS A1z0 a1.Vals.length c1z0], .blk b683 9 [.string a1.Key]] rfl (by kernel_rfl) (by kernel_rfl) rfl rfl rfl rfl rfl (by kernel_rfl) hI (by decide) rfl rfl rfl (hI.grp 7 rfl) g676 (mks_cons (mk_flat (k := tStr) a1.Key [.string a1.Key] rfl) mks_nil) ?_)
            clear hI
            intro A687 c688 _ hI
            replace hI := hI.pick (L' := [.row tStr 9 A687 ((a0.keys ++ ([a1.Key] : List ByteArray)).length) c688 (a0.keys ++ ([a1.Key] : List ByteArray)), .blk b0z 123 [vS A0z0 a0.keys.length c0z0, vS A0z1 a0.types.length c0z1, vS A0z2 a0.wrote.length c0z2, vS A0z3 a0.incs.length c0z3, vS A0z4 a0.last_.length c0z4], .row (tInt .i64) 3 A0z1 a0.types.length c0z1 a0.types, .row (tSlice 2 (tInt .i64)) 35 A0z2 a0.wrote.length c0z2 a0.wrote, .row (tInt .i64) 3 A0z3 a0.incs.length c0z3 a0.incs, .row (tInt .i64) 3 A0z4 a0.last_.length c0z4 a0.last_, .blk b2 89 [vI a1.Kind, .string a1.Key, vI a1.Arg, vB a1.Got, vS A1z0 a1.Vals.length c1z0]]) [0, 1, 2, 3, 4, 5, 6] (by decide) rfl
            refine ⟨(hI.pk [2, 3, 4, 5, 6]), ?_⟩
            refine hg (n := 1) [(9, .p), (10, .p)] (fun _ hS => gO) (hI.pk [2, 3, 4, 5, 6]) ?_
            refine ho (n := 0) 11 rfl (e_store 22 _ _ 1 b0z 123 [vS A0z0 a0.keys.length c0z0, vS A0z1 a0.types.length c0z1, vS A0z2 a0.wrote.length c0z2, vS A0z3 a0.incs.length c0z3, vS A0z4 a0.last_.length c0z4] [vS A687 ((a0.keys ++ ([a1.Key] : List ByteArray)).length) c688, vS A0z1 a0.types.length c0z1, vS A0z2 a0.wrote.length c0z2, vS A0z3 a0.incs.length c0z3, vS A0z4 a0.last_.length c0z4] 0 (vS A687 ((a0.keys ++ ([a1.Key] : List ByteArray)).length) c688) rfl (by kernel_rfl) (by kernel_rfl) (by kernel_rfl) (by kernel_rfl) hI rfl (by kernel_rfl) (by kernel_rfl) ?_)
            clear hI
            intro _ hI
            refine ⟨(hI.pk [2, 3, 4, 5, 6]), ?_⟩
            refine hd ?_
            exact hJ582 () _ _ ⟨_, A687, c688, at_, hI.pick [1, 0, 2, 3, 4, 5, 6] (by decide) rfl⟩ H
          · refine (e_partsS 22 9 1 _ _ _ #[.string a1.Key] [.string a1.Key] rfl rfl rfl rfl (by kernel_rfl) (by kernel_rfl) (by kernel_rfl) (by kernel_rfl) hI ?_)
            clear hI
            intro b689 _ hs690 hI
            refine ⟨(hI.pk [2, 3, 4, 5, 6]), ?_⟩
            refine ho (n := 4) 4 rfl (e_read (ops := #[]) [(b0z, 0, [vS A0z0 a0.keys.length c0z0, vS A0z1 a0.types.length c0z1, vS A0z2 a0.wrote.length c0z2, vS A0z3 a0.incs.length c0z3, vS A0z4 a0.last_.length c0z4])] (.l 0 0) (vS A0z0 a0.keys.length c0z0) [] ⟨(hI.grp 0 rfl), trivial⟩ trivial (by kernel_rfl) (by kernel_rfl) (by kernel_rfl) ⟨(hI.pk [2, 3, 4, 5, 6]), ?_⟩)
            refine ho (n := 3) 8 rfl (e_append tStr 22 0 9 _ _ _ _ A0z0 a0.keys.length c0z0 a0.keys ([a1.Key] : List ByteArray) b689 0 1 1 [.string a1.Key] 1 [] [0, 2, 3, 4, 5, 6, 7] [] [.blk b0z 123 [vS A0z0 a0.keys.length c0z0, vS A0z1 a0.types.length c0z1, vS A0z2 a0.wrote.length c0z2, vS A0z3 a0.incs.length c0z3, vS A0z4 a0.last_.length c0z4], .row (tInt .i64) 3 A0z1 a0.types.length c0z1 a0.types, .row (tSlice 2 (tInt .i64)) 35 A0z2 a0.wrote.length c0z2 a0.wrote, .row (tInt .i64) 3 A0z3 a0.incs.length c0z3 a0.incs, .row (tInt .i64) 3 A0z4 a0.last_.length c0z4 a0.last_, .blk b2 89 [vI a1.Kind, .string a1.Key, vI a1.Arg, vB a1.Got, vS A1z0 a1.Vals.length c1z0], .blk b689 9 [.string a1.Key]] rfl (by kernel_rfl) (by kernel_rfl) rfl rfl rfl rfl rfl (by kernel_rfl) hI (by decide) rfl rfl rfl (hI.grp 7 rfl) g676 (mks_cons (mk_flat (k := tStr) a1.Key [.string a1.Key] rfl) mks_nil) ?_)
            clear hI
            intro A693 c694 _ hI
            replace hI := hI.pick (L' := [.row tStr 9 A693 ((a0.keys ++ ([a1.Key] : List ByteArray)).length) c694 (a0.keys ++ ([a1.Key] : List ByteArray)), .blk b0z 123 [vS A0z0 a0.keys.length c0z0, vS A0z1 a0.types.length c0z1, vS A0z2 a0.wrote.length c0z2, vS A0z3 a0.incs.length c0z3, vS A0z4 a0.last_.length c0z4], .row (tInt .i64) 3 A0z1 a0.types.length c0z1 a0.types, .row (tSlice 2 (tInt .i64)) 35 A0z2 a0.wrote.length c0z2 a0.wrote, .row (tInt .i64) 3 A0z3 a0.incs.length c0z3 a0.incs, .row (tInt .i64) 3 A0z4 a0.last_.length c0z4 a0.last_, .blk b2 89 [vI a1.Kind, .string a1.Key, vI a1.Arg, vB a1.Got, vS A1z0 a1.Vals.length c1z0]]) [0, 1, 2, 3, 4, 5, 6] (by decide) rfl
            refine ⟨(hI.pk [2, 3, 4, 5, 6]), ?_⟩
            refine hg (n := 1) [(9, .p), (10, .p)] (fun _ hS => gO) (hI.pk [2, 3, 4, 5, 6]) ?_
            refine ho (n := 0) 11 rfl (e_store 22 _ _ 1 b0z 123 [vS A0z0 a0.keys.length c0z0, vS A0z1 a0.types.length c0z1, vS A0z2 a0.wrote.length c0z2, vS A0z3 a0.incs.length c0z3, vS A0z4 a0.last_.length c0z4] [vS A693 ((a0.keys ++ ([a1.Key] : List ByteArray)).length) c694, vS A0z1 a0.types.length c0z1, vS A0z2 a0.wrote.length c0z2, vS A0z3 a0.incs.length c0z3, vS A0z4 a0.last_.length c0z4] 0 (vS A693 ((a0.keys ++ ([a1.Key] : List ByteArray)).length) c694) rfl (by kernel_rfl) (by kernel_rfl) (by kernel_rfl) (by kernel_rfl) hI rfl (by kernel_rfl) (by kernel_rfl) ?_)
            clear hI
            intro _ hI
            refine ⟨(hI.pk [2, 3, 4, 5, 6]), ?_⟩
            refine hd ?_
            exact hJ582 () _ _ ⟨_, A693, c694, at_, hI.pick [1, 0, 2, 3, 4, 5, 6] (by decide) rfl⟩ H
    · refine ge hc556 (go_skip ?_)
      exact hJ97 (a0.keys, a0.types, a0.wrote, a0.incs, a0.last_, y5) _ _ ⟨_, A0z0, c0z0, A0z1, c0z1, A0z2, c0z2, A0z3, c0z3, A0z4, c0z4, at_, hI⟩ H
theorem enter36 (a : Array Value) : Sem.pureRun Try.prog (callFunc 36 a) = some (.enter 36 a) := by kernel_rfl
theorem assizeref05zCheck_calls (a0 : History) (A0z0 : Option Addr) (c0z0 : Nat) (A0z1 : Option Addr) (c0z1 : Nat) (M : Mem) (w : World) (hI : Inv M w []) (hr0z0 : rdS tStr M.blk A0z0 a0.Keys) (hl0z0 : a0.Keys.length ≤ c0z0) (hr0z1 : rdS kTxn M.blk A0z1 a0.Txns) (hl0z1 : a0.Txns.length ≤ c0z1) (r : Int) (H : assizeref05zCheck a0 = some r) :
    Calls Try.prog 36 #[.agg #[vS A0z0 a0.Keys.length c0z0, vS A0z1 a0.Txns.length c0z1]] w fun e w' => e = .returned (vI r) ∧ Inv M w' [] := by
  refine cg Try.func36 ?_
  intro cs
  unfold assizeref05zCheck at H
  refine go_seq (r_in (oe 0 rfl ?_))
  refine e_box 25 _ (.agg #[vS A0z0 a0.Keys.length c0z0, vS A0z1 a0.Txns.length c0z1]) [vS A0z0 a0.Keys.length c0z0, vS A0z1 a0.Txns.length c0z1] rfl (by kernel_rfl) rfl hI ?_
  clear hI
  intro b2 _ hI
  refine bp 1 1 (ro (go_seq ?_))
  refine go_seq_join (o := r) (fun b11 f w => ∃ (j : Nat → Value), f = updL j [(1, vP b2 0), (19, vB b11)] ∧ Inv M w [.blk b2 25 [vS A0z0 a0.Keys.length c0z0, vS A0z1 a0.Txns.length c0z1]]) (fun b11 => assizeref05zCheck.j1 a0 b11) ?_ (fun hJ12 => ?_)
  · clear H hI
    rintro b11 _ _ ⟨_, rfl, hI⟩ H
    replace H := cond_some H
    rcases H with ⟨hc13, H⟩ | ⟨hc13, H⟩
    · refine gt hc13 (go_seq (rp 1 ?_))
      replace H := Option.some.inj H
      subst H
      exact gr Try.func36 ⟨rfl, hI.pn⟩
    · refine ge hc13 (go_skip (go_seq (r_in (bp 0 1 (oe 1 rfl ?_)))))
      refine e_box 123 _ (.agg #[vS none 0 0, vS none 0 0, vS none 0 0, vS none 0 0, vS none 0 0]) [vS none 0 0, vS none 0 0, vS none 0 0, vS none 0 0, vS none 0 0] rfl (by kernel_rfl) rfl hI ?_
      clear hI
      intro b15 _ hI
      refine bp 2 1 (ro (go_seq (go_seq (rp 1 (go_block ?_)))))
      refine go_iter (assizeref05zCheck.s2 a0) (fun (l3136, l3139, l3142, l3145, l3148, x3151) f w => ∃ (j : Nat → Value) (A3137 : Option Addr) (c3138 : Nat) (A3140 : Option Addr) (c3141 : Nat) (A3143 : Option Addr) (c3144 : Nat) (A3146 : Option Addr) (c3147 : Nat) (A3149 : Option Addr) (c3150 : Nat), f = updL j [(1, vP b2 0), (3, vP b15 0), (4, vI x3151)] ∧ Inv M w [.blk b2 25 [vS A0z0 a0.Keys.length c0z0, vS A0z1 a0.Txns.length c0z1], .blk b15 123 [vS A3137 l3136.length c3138, vS A3140 l3139.length c3141, vS A3143 l3142.length c3144, vS A3146 l3145.length c3147, vS A3149 l3148.length c3150], .row tStr 9 A3137 l3136.length c3138 l3136, .row (tInt .i64) 3 A3140 l3139.length c3141 l3139, .row (tSlice 2 (tInt .i64)) 35 A3143 l3142.length c3144 l3142, .row (tInt .i64) 3 A3146 l3145.length c3147 l3145, .row (tInt .i64) 3 A3149 l3148.length c3150 l3148]) H ⟨_, none, 0, none, 0, none, 0, none, 0, none, 0, at_, (((((hI.nilrow tStr 9).nilrow (tInt .i64) 3).nilrow (tSlice 2 (tInt .i64)) 35).nilrow (tInt .i64) 3).nilrow (tInt .i64) 3)⟩ ?_
      clear H hI
      rintro ⟨l3136, l3139, l3142, l3145, l3148, x3151⟩ _ _ o1 H ⟨_, A3137, c3138, A3140, c3141, A3143, c3144, A3146, c3147, A3149, c3150, rfl, hI⟩ hin1 hout1
      refine go_seq (go_seq (rg [.p, .p, .l 0 1, .p, .p] (gA (hI.grp 0 rfl)) ?_))
      replace H := cond_some H
      rcases H with ⟨hc3153, H⟩ | ⟨hc3153, H⟩
      · refine gt hc3153 (go_skip (go_seq (go_block (go_seq (r_in ?_)))))
        replace H := must_some H
        obtain ⟨g3875, H⟩ := H
        obtain ⟨b3879, q3880, rfl, cs3878, hk3877, hg3876⟩ := rdS.open hr0z1 rfl g3875
        obtain ⟨_, _, rfl, rfl, ⟨_, _, rfl, rfl, ⟨_, _, rfl, rfl, ⟨_, _, rfl, rfl, ⟨A3881, c3882, rfl, hl3884, hr3883⟩⟩⟩⟩⟩ := hk3877
        refine bx 0 [.p, .l 0 1, .p, .x, .l 1 0] (gB (hI.grp 0 rfl) (hI.lies hg3876)) _ (bZ g3875) (oe 5 rfl ?_)
        refine e_alloc 41 (.agg #[vI 0, vI 0, vI 0, vI 0, vS none 0 0]) [vI 0, vI 0, vI 0, vI 0, vS none 0 0] rfl (by kernel_rfl) rfl hI ?_
        clear hI
        intro b3885 _ hI
        refine oe 6 rfl ?_
        refine e_store 41 _ _ 7 b3885 41 [vI 0, vI 0, vI 0, vI 0, vS none 0 0] [vI ((idx a0.Txns x3151).Proc), vI ((idx a0.Txns x3151).Status), vI ((idx a0.Txns x3151).From), vI ((idx a0.Txns x3151).To), vS A3881 (((idx a0.Txns x3151).Ops).length) c3882] 0 (.agg #[vI ((idx a0.Txns x3151).Proc), vI ((idx a0.Txns x3151).Status), vI ((idx a0.Txns x3151).From), vI ((idx a0.Txns x3151).To), vS A3881 (((idx a0.Txns x3151).Ops).length) c3882]) rfl (by kernel_rfl) (by kernel_rfl) (by kernel_rfl) (by kernel_rfl) hI rfl (by kernel_rfl) (by kernel_rfl) ?_
        clear hI
        intro _ hI
        refine ro (go_seq ?_)
        refine go_seq_join (o := o1) (fun b3894 f w => ∃ (j : Nat → Value), f = updL j [(1, vP b2 0), (3, vP b15 0), (4, vI x3151), (5, vP b3885 0), (44, vB b3894)] ∧ Inv M w [.blk b2 25 [vS A0z0 a0.Keys.length c0z0, vS (some ⟨b3879, q3880, none⟩) a0.Txns.length c0z1], .blk b15 123 [vS A3137 l3136.length c3138, vS A3140 l3139.length c3141, vS A3143 l3142.length c3144, vS A3146 l3145.length c3147, vS A3149 l3148.length c3150], .row tStr 9 A3137 l3136.length c3138 l3136, .row (tInt .i64) 3 A3140 l3139.length c3141 l3139, .row (tSlice 2 (tInt .i64)) 35 A3143 l3142.length c3144 l3142, .row (tInt .i64) 3 A3146 l3145.length c3147 l3145, .row (tInt .i64) 3 A3149 l3148.length c3150 l3148, .blk b3885 41 [vI ((idx a0.Txns x3151).Proc), vI ((idx a0.Txns x3151).Status), vI ((idx a0.Txns x3151).From), vI ((idx a0.Txns x3151).To), vS A3881 (((idx a0.Txns x3151).Ops).length) c3882]]) (fun b3894 => assizeref05zCheck.j3 a0 l3136 l3139 l3142 l3145 l3148 x3151 b3894) ?_ (fun hJ3895 => ?_)
        · clear H hI
          rintro b3894 _ _ ⟨_, rfl, hI⟩ H
          replace H := cond_some H
          rcases H with ⟨hc3896, H⟩ | ⟨hc3896, H⟩
          · refine gt hc3896 (go_seq (rp 1 ?_))
            replace H := out_some H
            obtain ⟨_, H, he1⟩ := H
            have he := (hout1 _ he1).symm
            subst he
            replace H := Option.some.inj H
            subst H
            exact gr Try.func36 ⟨rfl, hI.pn⟩
          · refine ge hc3896 (go_skip (go_seq (r_in (bg 0 [.p, .l 0 1, .p] (gA (hI.grp 7 rfl)) (oe 3 rfl ?_)))))
            refine e_alloc 84 (.agg #[vI 0, vI 0, vS none 0 0]) [vI 0, vI 0, vS none 0 0] rfl (by kernel_rfl) rfl hI ?_
            clear hI
            intro b3898 _ hI
            refine oe 4 rfl ?_
            refine e_store 84 _ _ 8 b3898 84 [vI 0, vI 0, vS none 0 0] [vI 0, vI ((idx a0.Txns x3151).Status), vS none 0 0] 0 (.agg #[vI 0, vI ((idx a0.Txns x3151).Status), vS none 0 0]) rfl (by kernel_rfl) (by kernel_rfl) (by kernel_rfl) (by kernel_rfl) hI rfl (by kernel_rfl) (by kernel_rfl) ?_
            clear hI
            intro _ hI
            refine ro (go_seq (go_seq (rp 1 (go_block ?_))))
            refine go_iter (assizeref05zCheck.s4 a0 l3136 l3139 l3142 l3145 l3148 x3151) (fun (l4311, x4314) f w => ∃ (j : Nat → Value) (A4312 : Option Addr) (c4313 : Nat), f = updL j [(1, vP b2 0), (3, vP b15 0), (4, vI x3151), (5, vP b3885 0), (6, vP b3898 0), (7, vI x4314)] ∧ Inv M w [.blk b2 25 [vS A0z0 a0.Keys.length c0z0, vS (some ⟨b3879, q3880, none⟩) a0.Txns.length c0z1], .blk b15 123 [vS A3137 l3136.length c3138, vS A3140 l3139.length c3141, vS A3143 l3142.length c3144, vS A3146 l3145.length c3147, vS A3149 l3148.length c3150], .row tStr 9 A3137 l3136.length c3138 l3136, .row (tInt .i64) 3 A3140 l3139.length c3141 l3139, .row (tSlice 2 (tInt .i64)) 35 A3143 l3142.length c3144 l3142, .row (tInt .i64) 3 A3146 l3145.length c3147 l3145, .row (tInt .i64) 3 A3149 l3148.length c3150 l3148, .blk b3885 41 [vI ((idx a0.Txns x3151).Proc), vI ((idx a0.Txns x3151).Status), vI ((idx a0.Txns x3151).From), vI ((idx a0.Txns x3151).To), vS A3881 (((idx a0.Txns x3151).Ops).length) c3882], .blk b3898 84 [vI 0, vI ((idx a0.Txns x3151).Status), vS A4312 l4311.length c4313], .row (kCallL M.blk) 89 A4312 l4311.length c4313 l4311]) H ⟨_, none, 0, at_, (hI.nilrow (kCallL M.blk) 89)⟩ ?_
            clear H hI
            rintro ⟨l4311, x4314⟩ _ _ o2 H ⟨_, A4312, c4313, rfl, hI⟩ hin2 hout2
            refine go_seq (go_seq (rg [.p, .p, .l 0 4, .p, .p] (gA (hI.grp 7 rfl)) ?_))
            replace H := cond_some H
            rcases H with ⟨hc4316, H⟩ | ⟨hc4316, H⟩
            · refine gt hc4316 (go_skip (go_seq ?_))
              refine go_block_join (o := o2) (fun (_ : Unit) f w => ∃ (j : Nat → Value) (A4399 : Option Addr) (c4400 : Nat), f = updL j [(1, vP b2 0), (3, vP b15 0), (4, vI x3151), (5, vP b3885 0), (6, vP b3898 0), (7, vI x4314)] ∧ Inv M w [.blk b2 25 [vS A0z0 a0.Keys.length c0z0, vS (some ⟨b3879, q3880, none⟩) a0.Txns.length c0z1], .blk b15 123 [vS A3137 l3136.length c3138, vS A3140 l3139.length c3141, vS A3143 l3142.length c3144, vS A3146 l3145.length c3147, vS A3149 l3148.length c3150], .row tStr 9 A3137 l3136.length c3138 l3136, .row (tInt .i64) 3 A3140 l3139.length c3141 l3139, .row (tSlice 2 (tInt .i64)) 35 A3143 l3142.length c3144 l3142, .row (tInt .i64) 3 A3146 l3145.length c3147 l3145, .row (tInt .i64) 3 A3149 l3148.length c3150 l3148, .blk b3885 41 [vI ((idx a0.Txns x3151).Proc), vI ((idx a0.Txns x3151).Status), vI ((idx a0.Txns x3151).From), vI ((idx a0.Txns x3151).To), vS A3881 (((idx a0.Txns x3151).Ops).length) c3882], .blk b3898 84 [vI 0, vI ((idx a0.Txns x3151).Status), vS A4399 ((l4311 ++ ([(⟨(idx ((idx a0.Txns x3151).Ops) x4314).Kind, idx a0.Keys ((idx ((idx a0.Txns x3151).Ops) x4314).Key), (idx ((idx a0.Txns x3151).Ops) x4314).Arg, (idx ((idx a0.Txns x3151).Ops) x4314).Got, (idx ((idx a0.Txns x3151).Ops) x4314).Vals⟩ : Call)] : List Call)).length) c4400], .row (kCallL M.blk) 89 A4399 ((l4311 ++ ([(⟨(idx ((idx a0.Txns x3151).Ops) x4314).Kind, idx a0.Keys ((idx ((idx a0.Txns x3151).Ops) x4314).Key), (idx ((idx a0.Txns x3151).Ops) x4314).Arg, (idx ((idx a0.Txns x3151).Ops) x4314).Got, (idx ((idx a0.Txns x3151).Ops) x4314).Vals⟩ : Call)] : List Call)).length) c4400 (l4311 ++ ([(⟨(idx ((idx a0.Txns x3151).Ops) x4314).Kind, idx a0.Keys ((idx ((idx a0.Txns x3151).Ops) x4314).Key), (idx ((idx a0.Txns x3151).Ops) x4314).Arg, (idx ((idx a0.Txns x3151).Ops) x4314).Got, (idx ((idx a0.Txns x3151).Ops) x4314).Vals⟩ : Call)] : List Call))]) (fun (_ : Unit) => assizeref05zCheck.j5 a0 x3151 l4311 x4314) ?_ (fun hJ4401 => ?_)
              · clear H hI
                rintro ⟨⟩ _ _ ⟨_, A4399, c4400, rfl, hI⟩ H
                refine rp 3 ?_
                exact hin2 _ (Option.some.inj H).symm _ _ ⟨_, A4399, c4400, at_, hI⟩
              · refine go_seq (r_in ?_)
                replace H := must_some H
                obtain ⟨g4413, H⟩ := H
                obtain ⟨b4417, q4418, rfl, cs4416, hk4415, hg4414⟩ := rdS.open hr3883 rfl g4413
                obtain ⟨_, _, rfl, rfl, ⟨_, _, rfl, rfl, ⟨_, _, rfl, rfl, ⟨_, _, rfl, rfl, ⟨A4419, c4420, rfl, hl4422, hr4421⟩⟩⟩⟩⟩ := hk4415
                refine bx 0 [.p, .l 0 4, .p, .x, .l 1 0] (gB (hI.grp 7 rfl) (hI.lies hg4414)) _ (bZ g4413) (oe 5 rfl ?_)
                refine e_alloc 64 (.agg #[vI 0, vI 0, vI 0, vB false, vS none 0 0]) [vI 0, vI 0, vI 0, vB false, vS none 0 0] rfl (by kernel_rfl) rfl hI ?_
                clear hI
                intro b4423 _ hI
                refine oe 6 rfl ?_
                refine e_store 64 _ _ 10 b4423 64 [vI 0, vI 0, vI 0, vB false, vS none 0 0] [vI ((idx ((idx a0.Txns x3151).Ops) x4314).Kind), vI ((idx ((idx a0.Txns x3151).Ops) x4314).Key), vI ((idx ((idx a0.Txns x3151).Ops) x4314).Arg), vB ((idx ((idx a0.Txns x3151).Ops) x4314).Got), vS A4419 (((idx ((idx a0.Txns x3151).Ops) x4314).Vals).length) c4420] 0 (.agg #[vI ((idx ((idx a0.Txns x3151).Ops) x4314).Kind), vI ((idx ((idx a0.Txns x3151).Ops) x4314).Key), vI ((idx ((idx a0.Txns x3151).Ops) x4314).Arg), vB ((idx ((idx a0.Txns x3151).Ops) x4314).Got), vS A4419 (((idx ((idx a0.Txns x3151).Ops) x4314).Vals).length) c4420]) rfl (by kernel_rfl) (by kernel_rfl) (by kernel_rfl) (by kernel_rfl) hI rfl (by kernel_rfl) (by kernel_rfl) ?_
                clear hI
                intro _ hI
                refine ro (go_seq ?_)
                refine go_seq_join (o := o2) (fun b4428 f w => ∃ (j : Nat → Value), f = updL j [(1, vP b2 0), (3, vP b15 0), (4, vI x3151), (5, vP b3885 0), (6, vP b3898 0), (7, vI x4314), (8, vP b4423 0), (70, vB b4428)] ∧ Inv M w [.blk b2 25 [vS A0z0 a0.Keys.length c0z0, vS (some ⟨b3879, q3880, none⟩) a0.Txns.length c0z1], .blk b15 123 [vS A3137 l3136.length c3138, vS A3140 l3139.length c3141, vS A3143 l3142.length c3144, vS A3146 l3145.length c3147, vS A3149 l3148.length c3150], .row tStr 9 A3137 l3136.length c3138 l3136, .row (tInt .i64) 3 A3140 l3139.length c3141 l3139, .row (tSlice 2 (tInt .i64)) 35 A3143 l3142.length c3144 l3142, .row (tInt .i64) 3 A3146 l3145.length c3147 l3145, .row (tInt .i64) 3 A3149 l3148.length c3150 l3148, .blk b3885 41 [vI ((idx a0.Txns x3151).Proc), vI ((idx a0.Txns x3151).Status), vI ((idx a0.Txns x3151).From), vI ((idx a0.Txns x3151).To), vS (some ⟨b4417, q4418, none⟩) (((idx a0.Txns x3151).Ops).length) c3882], .blk b3898 84 [vI 0, vI ((idx a0.Txns x3151).Status), vS A4312 l4311.length c4313], .row (kCallL M.blk) 89 A4312 l4311.length c4313 l4311, .blk b4423 64 [vI ((idx ((idx a0.Txns x3151).Ops) x4314).Kind), vI ((idx ((idx a0.Txns x3151).Ops) x4314).Key), vI ((idx ((idx a0.Txns x3151).Ops) x4314).Arg), vB ((idx ((idx a0.Txns x3151).Ops) x4314).Got), vS A4419 (((idx ((idx a0.Txns x3151).Ops) x4314).Vals).length) c4420]]) (fun b4428 => assizeref05zCheck.j6 a0 x3151 l4311 x4314 b4428) ?_ (fun hJ4429 => ?_)
                · clear H hI
                  rintro b4428 _ _ ⟨_, rfl, hI⟩ H
                  replace H := cond_some H
                  rcases H with ⟨hc4430, H⟩ | ⟨hc4430, H⟩
                  · refine gt hc4430 (go_seq (rp 1 ?_))
                    replace H := out_some H
                    obtain ⟨_, H, he2⟩ := H
                    have he := (hout2 _ he2).symm
                    subst he
                    replace H := out_some H
                    obtain ⟨_, H, he1⟩ := H
                    have he := (hout1 _ he1).symm
                    subst he
                    replace H := Option.some.inj H
                    subst H
                    exact gr Try.func36 ⟨rfl, hI.pn⟩
                  · refine ge hc4430 (go_skip ?_)
                    replace H := must_some H
                    obtain ⟨g4431, H⟩ := H
                    replace H := must_some H
                    obtain ⟨g4436, H⟩ := H
                    refine go_held (fun w => Inv M w [.blk b2 25 [vS A0z0 a0.Keys.length c0z0, vS (some ⟨b3879, q3880, none⟩) a0.Txns.length c0z1], .blk b15 123 [vS A3137 l3136.length c3138, vS A3140 l3139.length c3141, vS A3143 l3142.length c3144, vS A3146 l3145.length c3147, vS A3149 l3148.length c3150], .row tStr 9 A3137 l3136.length c3138 l3136, .row (tInt .i64) 3 A3140 l3139.length c3141 l3139, .row (tSlice 2 (tInt .i64)) 35 A3143 l3142.length c3144 l3142, .row (tInt .i64) 3 A3146 l3145.length c3147 l3145, .row (tInt .i64) 3 A3149 l3148.length c3150 l3148, .blk b3885 41 [vI ((idx a0.Txns x3151).Proc), vI ((idx a0.Txns x3151).Status), vI ((idx a0.Txns x3151).From), vI ((idx a0.Txns x3151).To), vS (some ⟨b4417, q4418, none⟩) (((idx a0.Txns x3151).Ops).length) c3882], .blk b4423 64 [vI ((idx ((idx a0.Txns x3151).Ops) x4314).Kind), vI ((idx ((idx a0.Txns x3151).Ops) x4314).Key), vI ((idx ((idx a0.Txns x3151).Ops) x4314).Arg), vB ((idx ((idx a0.Txns x3151).Ops) x4314).Got), vS A4419 (((idx ((idx a0.Txns x3151).Ops) x4314).Vals).length) c4420]]) (by kernel_rfl) ?_
                    replace hI := hI.drew'
                    obtain ⟨b4439, q4440, rfl, _⟩ := rdS.fopen hr0z0 rfl g4431
                    refine hx (n := 5) [(0, .p), (2, .p), (3, .l 0 0), (4, .p), (5, .l 1 0), (6, .p), (7, .l 0 1), (8, .x), (9, .l 2 0), (10, .p), (11, .l 0 2), (12, .p), (13, .l 0 3), (14, .p), (15, .l 0 4), (16, .p)] (fun _ hS => (gC (hS.grp 8 rfl) (hS.grp 0 rfl) (hS.lies (rdS.flook hr0z0 rfl g4431)))) (hI.pk [0, 1, 2, 3, 4, 5, 6, 7, 10]) _ (bZ g4431) ?_
                    refine held_each (n := 4) [1, 17] (by simp) (by kernel_rfl) ⟨⟨_, rfl, by kernel_rfl, ?_⟩, ⟨_, rfl, by kernel_rfl, ?_⟩, trivial⟩
                    · refine (e_read (ops := #[]) [(b3898, 0, [vI 0, vI ((idx a0.Txns x3151).Status), vS A4312 l4311.length c4313])] (.l 0 2) (vS A4312 l4311.length c4313) [] ⟨(hI.grp 8 rfl), trivial⟩ trivial (by kernel_rfl) (by kernel_rfl) (by kernel_rfl) ⟨(hI.pk [0, 1, 2, 3, 4, 5, 6, 7, 10]), ?_⟩)
                      refine ho (n := 3) 17 rfl (e_partsS 82 89 1 _ _ _ #[vI ((idx ((idx a0.Txns x3151).Ops) x4314).Kind), .string (idx a0.Keys ((idx ((idx a0.Txns x3151).Ops) x4314).Key)), vI ((idx ((idx a0.Txns x3151).Ops) x4314).Arg), vB ((idx ((idx a0.Txns x3151).Ops) x4314).Got), vS A4419 (((idx ((idx a0.Txns x3151).Ops) x4314).Vals).length) c4420] [vI ((idx ((idx a0.Txns x3151).Ops) x4314).Kind), .string (idx a0.Keys ((idx ((idx a0.Txns x3151).Ops) x4314).Key)), vI ((idx ((idx a0.Txns x3151).Ops) x4314).Arg), vB ((idx ((idx a0.Txns x3151).Ops) x4314).Got), vS A4419 (((idx ((idx a0.Txns x3151).Ops) x4314).Vals).length) c4420] rfl rfl rfl rfl (by kernel_rfl) (by kernel_rfl) (by kernel_rfl) (by kernel_rfl) hI ?_)
                      clear hI
                      intro b4445 _ hs4446 hI
                      refine ⟨(hI.pk [0, 1, 2, 3, 4, 5, 6, 7, 10]), ?_⟩
                      refine ho (n := 2) 18 rfl (e_append (kCallL M.blk) 82 0 89 _ _ _ _ A4312 l4311.length c4313 l4311 ([(⟨(idx ((idx a0.Txns x3151).Ops) x4314).Kind, idx a0.Keys ((idx ((idx a0.Txns x3151).Ops) x4314).Key), (idx ((idx a0.Txns x3151).Ops) x4314).Arg, (idx ((idx a0.Txns x3151).Ops) x4314).Got, (idx ((idx a0.Txns x3151).Ops) x4314).Vals⟩ : Call)] : List Call) b4445 0 1 1 [vI ((idx ((idx a0.Txns x3151).Ops) x4314).Kind), .string (idx a0.Keys ((idx ((idx a0.Txns x3151).Ops) x4314).Key)), vI ((idx ((idx a0.Txns x3151).Ops) x4314).Arg), vB ((idx ((idx a0.Txns x3151).Ops) x4314).Got), vS A4419 (((idx ((idx a0.Txns x3151).Ops) x4314).Vals).length) c4420] 9 [] [0, 1, 2, 3, 4, 5, 6, 7, 8, 10, 11] [] [.blk b2 25 [vS (some ⟨b4439, q4440, none⟩) a0.Keys.length c0z0, vS (some ⟨b3879, q3880, none⟩) a0.Txns.length c0z1], .blk b15 123 [vS A3137 l3136.length c3138, vS A3140 l3139.length c3141, vS A3143 l3142.length c3144, vS A3146 l3145.length c3147, vS A3149 l3148.length c3150], .row tStr 9 A3137 l3136.length c3138 l3136, .row (tInt .i64) 3 A3140 l3139.length c3141 l3139, .row (tSlice 2 (tInt .i64)) 35 A3143 l3142.length c3144 l3142, .row (tInt .i64) 3 A3146 l3145.length c3147 l3145, .row (tInt .i64) 3 A3149 l3148.length c3150 l3148, .blk b3885 41 [vI ((idx a0.Txns x3151).Proc), vI ((idx a0.Txns x3151).Status), vI ((idx a0.Txns x3151).From), vI ((idx a0.Txns x3151).To), vS (some ⟨b4417, q4418, none⟩) (((idx a0.Txns x3151).Ops).length) c3882], .blk b3898 84 [vI 0, vI ((idx a0.Txns x3151).Status), vS A4312 l4311.length c4313], .blk b4423 64 [vI ((idx ((idx a0.Txns x3151).Ops) x4314).Kind), vI ((idx ((idx a0.Txns x3151).Ops) x4314).Key), vI ((idx ((idx a0.Txns x3151).Ops) x4314).Arg), vB ((idx ((idx a0.Txns x3151).Ops) x4314).Got), vS A4419 (((idx ((idx a0.Txns x3151).Ops) x4314).Vals).length) c4420], .blk b4445 89 [vI ((idx ((idx a0.Txns x3151).Ops) x4314).Kind), .string (idx a0.Keys ((idx ((idx a0.Txns x3151).Ops) x4314).Key)), vI ((idx ((idx a0.Txns x3151).Ops) x4314).Arg), vB ((idx ((idx a0.Txns x3151).Ops) x4314).Got), vS A4419 (((idx ((idx a0.Txns x3151).Ops) x4314).Vals).length) c4420]] rfl (by kernel_rfl) (by kernel_rfl) rfl rfl rfl rfl rfl (by kernel_rfl) hI (by decide) rfl rfl rfl (hI.grp 11 rfl) g4436 (mks_cons (mk_iso (g := fun g : Call => (g.Kind, g.Key, g.Arg, g.Got, g.Vals)) (x := (⟨(idx ((idx a0.Txns x3151).Ops) x4314).Kind, idx a0.Keys ((idx ((idx a0.Txns x3151).Ops) x4314).Key), (idx ((idx a0.Txns x3151).Ops) x4314).Arg, (idx ((idx a0.Txns x3151).Ops) x4314).Got, (idx ((idx a0.Txns x3151).Ops) x4314).Vals⟩ : Call)) (mk_pair (mk_flat (k := (tInt .i64)) ((idx ((idx a0.Txns x3151).Ops) x4314).Kind) [vI ((idx ((idx a0.Txns x3151).Ops) x4314).Kind)] rfl) (mk_pair (mk_flat (k := tStr) (idx a0.Keys ((idx ((idx a0.Txns x3151).Ops) x4314).Key)) [.string (idx a0.Keys ((idx ((idx a0.Txns x3151).Ops) x4314).Key))] rfl) (mk_pair (mk_flat (k := (tInt .i64)) ((idx ((idx a0.Txns x3151).Ops) x4314).Arg) [vI ((idx ((idx a0.Txns x3151).Ops) x4314).Arg)] rfl) (mk_pair (mk_flat (k := tBool) ((idx ((idx a0.Txns x3151).Ops) x4314).Got) [vB ((idx ((idx a0.Txns x3151).Ops) x4314).Got)] rfl) (mk_lent hr4421 rfl hl4422)))))) mks_nil) ?_)
                      clear hI
                      intro A4449 c4450 _ hI
                      replace hI := hI.pick (L' := [.row (kCallL M.blk) 89 A4449 ((l4311 ++ ([(⟨(idx ((idx a0.Txns x3151).Ops) x4314).Kind, idx a0.Keys ((idx ((idx a0.Txns x3151).Ops) x4314).Key), (idx ((idx a0.Txns x3151).Ops) x4314).Arg, (idx ((idx a0.Txns x3151).Ops) x4314).Got, (idx ((idx a0.Txns x3151).Ops) x4314).Vals⟩ : Call)] : List Call)).length) c4450 (l4311 ++ ([(⟨(idx ((idx a0.Txns x3151).Ops) x4314).Kind, idx a0.Keys ((idx ((idx a0.Txns x3151).Ops) x4314).Key), (idx ((idx a0.Txns x3151).Ops) x4314).Arg, (idx ((idx a0.Txns x3151).Ops) x4314).Got, (idx ((idx a0.Txns x3151).Ops) x4314).Vals⟩ : Call)] : List Call)), .blk b2 25 [vS (some ⟨b4439, q4440, none⟩) a0.Keys.length c0z0, vS (some ⟨b3879, q3880, none⟩) a0.Txns.length c0z1], .blk b15 123 [vS A3137 l3136.length c3138, vS A3140 l3139.length c3141, vS A3143 l3142.length c3144, vS A3146 l3145.length c3147, vS A3149 l3148.length c3150], .row tStr 9 A3137 l3136.length c3138 l3136, .row (tInt .i64) 3 A3140 l3139.length c3141 l3139, .row (tSlice 2 (tInt .i64)) 35 A3143 l3142.length c3144 l3142, .row (tInt .i64) 3 A3146 l3145.length c3147 l3145, .row (tInt .i64) 3 A3149 l3148.length c3150 l3148, .blk b3885 41 [vI ((idx a0.Txns x3151).Proc), vI ((idx a0.Txns x3151).Status), vI ((idx a0.Txns x3151).From), vI ((idx a0.Txns x3151).To), vS (some ⟨b4417, q4418, none⟩) (((idx a0.Txns x3151).Ops).length) c3882], .blk b3898 84 [vI 0, vI ((idx a0.Txns x3151).Status), vS A4312 l4311.length c4313], .blk b4423 64 [vI ((idx ((idx a0.Txns x3151).Ops) x4314).Kind), vI ((idx ((idx a0.Txns x3151).Ops) x4314).Key), vI ((idx ((idx a0.Txns x3151).Ops) x4314).Arg), vB ((idx ((idx a0.Txns x3151).Ops) x4314).Got), vS A4419 (((idx ((idx a0.Txns x3151).Ops) x4314).Vals).length) c4420]]) [0, 1, 2, 3, 4, 5, 6, 7, 8, 9, 10] (by decide) rfl
                      refine ⟨(hI.pk [1, 2, 3, 4, 5, 6, 7, 8, 10]), ?_⟩
                      refine hg (n := 1) [(19, .p)] (fun _ hS => gO) (hI.pk [1, 2, 3, 4, 5, 6, 7, 8, 10]) ?_
                      refine ho (n := 0) 20 rfl (e_store 82 _ _ 9 b3898 84 [vI 0, vI ((idx a0.Txns x3151).Status), vS A4312 l4311.length c4313] [vI 0, vI ((idx a0.Txns x3151).Status), vS A4449 ((l4311 ++ ([(⟨(idx ((idx a0.Txns x3151).Ops) x4314).Kind, idx a0.Keys ((idx ((idx a0.Txns x3151).Ops) x4314).Key), (idx ((idx a0.Txns x3151).Ops) x4314).Arg, (idx ((idx a0.Txns x3151).Ops) x4314).Got, (idx ((idx a0.Txns x3151).Ops) x4314).Vals⟩ : Call)] : List Call)).length) c4450] 2 (vS A4449 ((l4311 ++ ([(⟨(idx ((idx a0.Txns x3151).Ops) x4314).Kind, idx a0.Keys ((idx ((idx a0.Txns x3151).Ops) x4314).Key), (idx ((idx a0.Txns x3151).Ops) x4314).Arg, (idx ((idx a0.Txns x3151).Ops) x4314).Got, (idx ((idx a0.Txns x3151).Ops) x4314).Vals⟩ : Call)] : List Call)).length) c4450) rfl (by kernel_rfl) (by kernel_rfl) (by kernel_rfl) (by kernel_rfl) hI rfl (by kernel_rfl) (by kernel_rfl) ?_)
                      clear hI
                      intro _ hI
                      refine ⟨(hI.pk [1, 2, 3, 4, 5, 6, 7, 8, 10]), ?_⟩
                      refine hd (go_inBlock ?_)
                      exact hJ4401 () _ _ ⟨_, A4449, c4450, at_, hI.pick [1, 2, 3, 4, 5, 6, 7, 8, 9, 0] (by decide) rfl⟩ H
                    · refine (e_partsS 82 89 1 _ _ _ #[vI ((idx ((idx a0.Txns x3151).Ops) x4314).Kind), .string (idx a0.Keys ((idx ((idx a0.Txns x3151).Ops) x4314).Key)), vI ((idx ((idx a0.Txns x3151).Ops) x4314).Arg), vB ((idx ((idx a0.Txns x3151).Ops) x4314).Got), vS A4419 (((idx ((idx a0.Txns x3151).Ops) x4314).Vals).length) c4420] [vI ((idx ((idx a0.Txns x3151).Ops) x4314).Kind), .string (idx a0.Keys ((idx ((idx a0.Txns x3151).Ops) x4314).Key)), vI ((idx ((idx a0.Txns x3151).Ops) x4314).Arg), vB ((idx ((idx a0.Txns x3151).Ops) x4314).Got), vS A4419 (((idx ((idx a0.Txns x3151).Ops) x4314).Vals).length) c4420] rfl rfl rfl rfl (by kernel_rfl) (by kernel_rfl) (by kernel_rfl) (by kernel_rfl) hI ?_)
                      clear hI
                      intro b4451 _ hs4452 hI
                      refine ⟨(hI.pk [0, 1, 2, 3, 4, 5, 6, 7, 10]), ?_⟩
                      refine ho (n := 3) 1 rfl (e_read (ops := #[]) [(b3898, 0, [vI 0, vI ((idx a0.Txns x3151).Status), vS A4312 l4311.length c4313])] (.l 0 2) (vS A4312 l4311.length c4313) [] ⟨(hI.grp 8 rfl), trivial⟩ trivial (by kernel_rfl) (by kernel_rfl) (by kernel_rfl) ⟨(hI.pk [0, 1, 2, 3, 4, 5, 6, 7, 10]), ?_⟩)
                      refine ho (n := 2) 18 rfl (e_append (kCallL M.blk) 82 0 89 _ _ _ _ A4312 l4311.length c4313 l4311 ([(⟨(idx ((idx a0.Txns x3151).Ops) x4314).Kind, idx a0.Keys ((idx ((idx a0.Txns x3151).Ops) x4314).Key), (idx ((idx a0.Txns x3151).Ops) x4314).Arg, (idx ((idx a0.Txns x3151).Ops) x4314).Got, (idx ((idx a0.Txns x3151).Ops) x4314).Vals⟩ : Call)] : List Call) b4451 0 1 1 [vI ((idx ((idx a0.Txns x3151).Ops) x4314).Kind), .string (idx a0.Keys ((idx ((idx a0.Txns x3151).Ops) x4314).Key)), vI ((idx ((idx a0.Txns x3151).Ops) x4314).Arg), vB ((idx ((idx a0.Txns x3151).Ops) x4314).Got), vS A4419 (((idx ((idx a0.Txns x3151).Ops) x4314).Vals).length) c4420] 9 [] [0, 1, 2, 3, 4, 5, 6, 7, 8, 10, 11] [] [.blk b2 25 [vS (some ⟨b4439, q4440, none⟩) a0.Keys.length c0z0, vS (some ⟨b3879, q3880, none⟩) a0.Txns.length c0z1], .blk b15 123 [vS A3137 l3136.length c3138, vS A3140 l3139.length c3141, vS A3143 l3142.length c3144, vS A3146 l3145.length c3147, vS A3149 l3148.length c3150], .row tStr 9 A3137 l3136.length c3138 l3136, .row (tInt .i64) 3 A3140 l3139.length c3141 l3139, .row (tSlice 2 (tInt .i64)) 35 A3143 l3142.length c3144 l3142, .row (tInt .i64) 3 A3146 l3145.length c3147 l3145, .row (tInt .i64) 3 A3149 l3148.length c3150 l3148, .blk b3885 41 [vI ((idx a0.Txns x3151).Proc), vI ((idx a0.Txns x3151).Status), vI ((idx a0.Txns x3151).From), vI ((idx a0.Txns x3151).To), vS (some ⟨b4417, q4418, none⟩) (((idx a0.Txns x3151).Ops).length) c3882], .blk b3898 84 [vI 0, vI ((idx a0.Txns x3151).Status), vS A4312 l4311.length c4313], .blk b4423 64 [vI ((idx ((idx a0.Txns x3151).Ops) x4314).Kind), vI ((idx ((idx a0.Txns x3151).Ops) x4314).Key), vI ((idx ((idx a0.Txns x3151).Ops) x4314).Arg), vB ((idx ((idx a0.Txns x3151).Ops) x4314).Got), vS A4419 (((idx ((idx a0.Txns x3151).Ops) x4314).Vals).length) c4420], .blk b4451 89 [vI ((idx ((idx a0.Txns x3151).Ops) x4314).Kind), .string (idx a0.Keys ((idx ((idx a0.Txns x3151).Ops) x4314).Key)), vI ((idx ((idx a0.Txns x3151).Ops) x4314).Arg), vB ((idx ((idx a0.Txns x3151).Ops) x4314).Got), vS A4419 (((idx ((idx a0.Txns x3151).Ops) x4314).Vals).length) c4420]] rfl (by kernel_rfl) (by kernel_rfl) rfl rfl rfl rfl rfl (by kernel_rfl) hI (by decide) rfl rfl rfl (hI.grp 11 rfl) g4436 (mks_cons (mk_iso (g := fun g : Call => (g.Kind, g.Key, g.Arg, g.Got, g.Vals)) (x := (⟨(idx ((idx a0.Txns x3151).Ops) x4314).Kind, idx a0.Keys ((idx ((idx a0.Txns x3151).Ops) x4314).Key), (idx ((idx a0.Txns x3151).Ops) x4314).Arg, (idx ((idx a0.Txns x3151).Ops) x4314).Got, (idx ((idx a0.Txns x3151).Ops) x4314).Vals⟩ : Call)) (mk_pair (mk_flat (k := (tInt .i64)) ((idx ((idx a0.Txns x3151).Ops) x4314).Kind) [vI ((idx ((idx a0.Txns x3151).Ops) x4314).Kind)] rfl) (mk_pair (mk_flat (k := tStr) (idx a0.Keys ((idx ((idx a0.Txns x3151).Ops) x4314).Key)) [.string (idx a0.Keys ((idx ((idx a0.Txns x3151).Ops) x4314).Key))] rfl) (mk_pair (mk_flat (k := (tInt .i64)) ((idx ((idx a0.Txns x3151).Ops) x4314).Arg) [vI ((idx ((idx a0.Txns x3151).Ops) x4314).Arg)] rfl) (mk_pair (mk_flat (k := tBool) ((idx ((idx a0.Txns x3151).Ops) x4314).Got) [vB ((idx ((idx a0.Txns x3151).Ops) x4314).Got)] rfl) (mk_lent hr4421 rfl hl4422)))))) mks_nil) ?_)
                      clear hI
                      intro A4455 c4456 _ hI
                      replace hI := hI.pick (L' := [.row (kCallL M.blk) 89 A4455 ((l4311 ++ ([(⟨(idx ((idx a0.Txns x3151).Ops) x4314).Kind, idx a0.Keys ((idx ((idx a0.Txns x3151).Ops) x4314).Key), (idx ((idx a0.Txns x3151).Ops) x4314).Arg, (idx ((idx a0.Txns x3151).Ops) x4314).Got, (idx ((idx a0.Txns x3151).Ops) x4314).Vals⟩ : Call)] : List Call)).length) c4456 (l4311 ++ ([(⟨(idx ((idx a0.Txns x3151).Ops) x4314).Kind, idx a0.Keys ((idx ((idx a0.Txns x3151).Ops) x4314).Key), (idx ((idx a0.Txns x3151).Ops) x4314).Arg, (idx ((idx a0.Txns x3151).Ops) x4314).Got, (idx ((idx a0.Txns x3151).Ops) x4314).Vals⟩ : Call)] : List Call)), .blk b2 25 [vS (some ⟨b4439, q4440, none⟩) a0.Keys.length c0z0, vS (some ⟨b3879, q3880, none⟩) a0.Txns.length c0z1], .blk b15 123 [vS A3137 l3136.length c3138, vS A3140 l3139.length c3141, vS A3143 l3142.length c3144, vS A3146 l3145.length c3147, vS A3149 l3148.length c3150], .row tStr 9 A3137 l3136.length c3138 l3136, .row (tInt .i64) 3 A3140 l3139.length c3141 l3139, .row (tSlice 2 (tInt .i64)) 35 A3143 l3142.length c3144 l3142, .row (tInt .i64) 3 A3146 l3145.length c3147 l3145, .row (tInt .i64) 3 A3149 l3148.length c3150 l3148, .blk b3885 41 [vI ((idx a0.Txns x3151).Proc), vI ((idx a0.Txns x3151).Status), vI ((idx a0.Txns x3151).From), vI ((idx a0.Txns x3151).To), vS (some ⟨b4417, q4418, none⟩) (((idx a0.Txns x3151).Ops).length) c3882], .blk b3898 84 [vI 0, vI ((idx a0.Txns x3151).Status), vS A4312 l4311.length c4313], .blk b4423 64 [vI ((idx ((idx a0.Txns x3151).Ops) x4314).Kind), vI ((idx ((idx a0.Txns x3151).Ops) x4314).Key), vI ((idx ((idx a0.Txns x3151).Ops) x4314).Arg), vB ((idx ((idx a0.Txns x3151).Ops) x4314).Got), vS A4419 (((idx ((idx a0.Txns x3151).Ops) x4314).Vals).length) c4420]]) [0, 1, 2, 3, 4, 5, 6, 7, 8, 9, 10] (by decide) rfl
                      refine ⟨(hI.pk [1, 2, 3, 4, 5, 6, 7, 8, 10]), ?_⟩
                      refine hg (n := 1) [(19, .p)] (fun _ hS => gO) (hI.pk [1, 2, 3, 4, 5, 6, 7, 8, 10]) ?_
                      refine ho (n := 0) 20 rfl (e_store 82 _ _ 9 b3898 84 [vI 0, vI ((idx a0.Txns x3151).Status), vS A4312 l4311.length c4313] [vI 0, vI ((idx a0.Txns x3151).Status), vS A4455 ((l4311 ++ ([(⟨(idx ((idx a0.Txns x3151).Ops) x4314).Kind, idx a0.Keys ((idx ((idx a0.Txns x3151).Ops) x4314).Key), (idx ((idx a0.Txns x3151).Ops) x4314).Arg, (idx ((idx a0.Txns x3151).Ops) x4314).Got, (idx ((idx a0.Txns x3151).Ops) x4314).Vals⟩ : Call)] : List Call)).length) c4456] 2 (vS A4455 ((l4311 ++ ([(⟨(idx ((idx a0.Txns x3151).Ops) x4314).Kind, idx a0.Keys ((idx ((idx a0.Txns x3151).Ops) x4314).Key), (idx ((idx a0.Txns x3151).Ops) x4314).Arg, (idx ((idx a0.Txns x3151).Ops) x4314).Got, (idx ((idx a0.Txns x3151).Ops) x4314).Vals⟩ : Call)] : List Call)).length) c4456) rfl (by kernel_rfl) (by kernel_rfl) (by kernel_rfl) (by kernel_rfl) hI rfl (by kernel_rfl) (by kernel_rfl) ?_)
                      clear hI
                      intro _ hI
                      refine ⟨(hI.pk [1, 2, 3, 4, 5, 6, 7, 8, 10]), ?_⟩
                      refine hd (go_inBlock ?_)
                      exact hJ4401 () _ _ ⟨_, A4455, c4456, at_, hI.pick [1, 2, 3, 4, 5, 6, 7, 8, 9, 0] (by decide) rfl⟩ H
                · refine r_in ?_
                  replace H := cond_some H
                  rcases H with ⟨hc4457, H⟩ | ⟨hc4457, H⟩
                  · refine bx 0 [.p, .l 0 1, .p, .c true, .p, .p, .p, .p, .p, .p, .p] (gA (hI.grp 10 rfl)) _ (bZ (bndEq hc4457)) (ro ?_)
                    exact hJ4429 true _ _ ⟨_, at_, hI⟩ H
                  · refine bx 0 [.p, .l 0 1, .p, .c false, .p, .l 0 1, .p, .l 1 0, .p, .p, .p] (gB (hI.grp 10 rfl) (hI.grp 0 rfl)) _ (bZ (bndEq hc4457)) (ro ?_)
                    exact hJ4429 (decide ((idx ((idx a0.Txns x3151).Ops) x4314).Key ≥ (a0.Keys.length : Int))) _ _ ⟨_, at_, hI⟩ H
            · refine ge hc4316 ?_
              refine go_exit rfl ?_
              refine go_seq (go_seq (r_in (bg 0 [.l 0 0] (gA (hI.grp 8 rfl)) (oe 1 rfl ?_))))
              refine e_partsS 126 84 1 _ _ _ #[vI 0, vI ((idx a0.Txns x3151).Status), vS A4312 l4311.length c4313] [vI 0, vI ((idx a0.Txns x3151).Status), vS A4312 l4311.length c4313] rfl rfl rfl rfl (by kernel_rfl) (by kernel_rfl) (by kernel_rfl) (by kernel_rfl) hI ?_
              clear hI
              intro b4467 _ hs4468 hI
              replace H := bind_some H
              obtain ⟨y4469, hy4470, H⟩ := H
              refine oe 2 rfl ?_
              refine ec (enter66 _) (assizeref03zCheck_calls (some ⟨b4467, 0, none⟩) 1 ([(⟨0, (idx a0.Txns x3151).Status, l4311⟩ : Event)] : List Event) (memOf _) _ (Inv.start _) (rd_parts (k := kEvent) (hI.grp 10 rfl) ⟨[vI 0, vI ((idx a0.Txns x3151).Status), vS A4312 l4311.length c4313], [], rfl, (rd_iso (g := fun g : Event => (g.Proc, g.Kind, g.Calls)) (x := (⟨0, (idx a0.Txns x3151).Status, l4311⟩ : Event)) (rd_pair (c1 := [vI 0]) (c2 := [vI ((idx a0.Txns x3151).Status), vS A4312 l4311.length c4313]) rfl (rd_flat (k := (tInt .i64)) 0 [vI 0] rfl) (rd_pair (c1 := [vI ((idx a0.Txns x3151).Status)]) (c2 := [vS A4312 l4311.length c4313]) rfl (rd_flat (k := (tInt .i64)) ((idx a0.Txns x3151).Status) [vI ((idx a0.Txns x3151).Status)] rfl) (rd_slice (Lends.rdS (lendsCall _) hI.fix (hI.row 9 rfl)) (hI.rowlen 9 rfl) (hI.rowle 9 rfl))))), rfl⟩) (Nat.le_refl _) _ hy4470) ?_
              rintro _ _ ⟨rfl, hI'⟩
              replace hI := hI.call0 hI'
              clear hI'
              refine ⟨_, rfl, ?_⟩
              refine bp 3 1 (ro ?_)
              replace H := cond_some H
              rcases H with ⟨hc4471, H⟩ | ⟨hc4471, H⟩
              · refine gt hc4471 (go_seq (rp 1 ?_))
                replace H := out_some H
                obtain ⟨_, H, he2⟩ := H
                have he := (hout2 _ he2).symm
                subst he
                replace H := out_some H
                obtain ⟨_, H, he1⟩ := H
                have he := (hout1 _ he1).symm
                subst he
                replace H := Option.some.inj H
                subst H
                exact gr Try.func36 ⟨rfl, hI.pn⟩
              · refine ge hc4471 (go_skip (go_seq (rp 1 (go_block ?_))))
                refine go_iter (assizeref05zCheck.s7 x3151 l4311) (fun (l4788, l4791, l4794, l4797, l4800, x4803) f w => ∃ (j : Nat → Value) (A4789 : Option Addr) (c4790 : Nat) (A4792 : Option Addr) (c4793 : Nat) (A4795 : Option Addr) (c4796 : Nat) (A4798 : Option Addr) (c4799 : Nat) (A4801 : Option Addr) (c4802 : Nat), f = updL j [(1, vP b2 0), (3, vP b15 0), (4, vI x3151), (6, vP b3898 0), (9, vI x4803)] ∧ Inv M w [.blk b2 25 [vS A0z0 a0.Keys.length c0z0, vS (some ⟨b3879, q3880, none⟩) a0.Txns.length c0z1], .blk b15 123 [vS A4789 l4788.length c4790, vS A4792 l4791.length c4793, vS A4795 l4794.length c4796, vS A4798 l4797.length c4799, vS A4801 l4800.length c4802], .row tStr 9 A4789 l4788.length c4790 l4788, .row (tInt .i64) 3 A4792 l4791.length c4793 l4791, .row (tSlice 2 (tInt .i64)) 35 A4795 l4794.length c4796 l4794, .row (tInt .i64) 3 A4798 l4797.length c4799 l4797, .row (tInt .i64) 3 A4801 l4800.length c4802 l4800, .blk b3898 84 [vI 0, vI ((idx a0.Txns x3151).Status), vS A4312 l4311.length c4313], .row (kCallL M.blk) 89 A4312 l4311.length c4313 l4311]) H ⟨_, A3137, c3138, A3140, c3141, A3143, c3144, A3146, c3147, A3149, c3150, at_, hI.pick [0, 1, 2, 3, 4, 5, 6, 8, 9] (by decide) rfl⟩ ?_
                clear H hI
                rintro ⟨l4788, l4791, l4794, l4797, l4800, x4803⟩ _ _ o3 H ⟨_, A4789, c4790, A4792, c4793, A4795, c4796, A4798, c4799, A4801, c4802, rfl, hI⟩ hin3 hout3
                refine go_seq (go_seq (rg [.p, .p, .l 0 2, .p, .p] (gA (hI.grp 7 rfl)) ?_))
                replace H := cond_some H
                rcases H with ⟨hc4805, H⟩ | ⟨hc4805, H⟩
                · refine gt hc4805 (go_skip (go_seq (go_block (go_seq (r_in ?_)))))
                  replace H := must_some H
                  obtain ⟨g4886, H⟩ := H
                  obtain ⟨b4887, rfl⟩ := hI.rowAt 8 rfl g4886
                  obtain ⟨cs4890, hk4889, hg4888⟩ := rdS.look (hI.row 8 rfl) (hI.rowlen 8 rfl) g4886
                  obtain ⟨_, _, rfl, rfl, ⟨_, _, rfl, rfl, ⟨_, _, rfl, rfl, ⟨_, _, rfl, rfl, ⟨A4891, c4892, rfl, hl4894, hr4893⟩⟩⟩⟩⟩ := hk4889
                  refine bx 0 [.p, .p, .l 0 2, .p, .x, .l 1 0, .p] (gB (hI.grp 7 rfl) hg4888.ok) _ (bZ g4886) ?_
                  replace H := bind_some H
                  obtain ⟨y4900, hy4901, H⟩ := H
                  obtain ⟨M4895, hJ4896, hs4897, hro4898, hback4899⟩ := hI.call (R := [.blk b15 123 [vS A4789 l4788.length c4790, vS A4792 l4791.length c4793, vS A4795 l4794.length c4796, vS A4798 l4797.length c4799, vS A4801 l4800.length c4802], .row tStr 9 A4789 l4788.length c4790 l4788, .row (tInt .i64) 3 A4792 l4791.length c4793 l4791, .row (tSlice 2 (tInt .i64)) 35 A4795 l4794.length c4796 l4794, .row (tInt .i64) 3 A4798 l4797.length c4799 l4797, .row (tInt .i64) 3 A4801 l4800.length c4802 l4800]) (L0 := [.blk b2 25 [vS A0z0 a0.Keys.length c0z0, vS (some ⟨b3879, q3880, none⟩) a0.Txns.length c0z1], .blk b3898 84 [vI 0, vI ((idx a0.Txns x3151).Status), vS (some ⟨b4887, 0, none⟩) l4311.length c4313], .row (kCallL M.blk) 89 (some ⟨b4887, 0, none⟩) l4311.length c4313 l4311]) [1, 2, 3, 4, 5, 6] [0, 7, 8] (by decide) rfl
                  refine oe 7 rfl ?_
                  refine ec (enter67 _) (assizeref05zbook_enter_calls b15 (⟨l4788, l4791, l4794, l4797, l4800⟩ : Assizeref05Book) A4789 c4790 A4792 c4793 A4795 c4796 A4798 c4799 A4801 c4802 (idx l4311 x4803) A4891 c4892 x3151 M4895 _ hJ4896 (rdS.mono hr4893 hs4897) hl4894 _ hy4901) ?_
                  rintro _ _ ⟨A4902, c4903, A4904, c4905, A4906, c4907, A4908, c4909, A4910, c4911, rfl, hI'⟩
                  replace hI := hback4899 _ _ hI'
                  clear hI'
                  refine ⟨_, rfl, ?_⟩
                  refine bp 8 1 (ro ?_)
                  replace H := cond_some H
                  rcases H with ⟨hc4912, H⟩ | ⟨hc4912, H⟩
                  · refine gt hc4912 (go_seq (rp 1 ?_))
                    replace H := out_some H
                    obtain ⟨_, H, he3⟩ := H
                    have he := (hout3 _ he3).symm
                    subst he
                    replace H := out_some H
                    obtain ⟨_, H, he2⟩ := H
                    have he := (hout2 _ he2).symm
                    subst he
                    replace H := out_some H
                    obtain ⟨_, H, he1⟩ := H
                    have he := (hout1 _ he1).symm
                    subst he
                    replace H := Option.some.inj H
                    subst H
                    exact gr Try.func36 ⟨rfl, hI.pn⟩
                  · refine ge hc4912 (go_skip (go_inBlock (rp 3 ?_)))
                    exact hin3 _ (Option.some.inj H).symm _ _ ⟨_, A4902, c4903, A4904, c4905, A4906, c4907, A4908, c4909, A4910, c4911, at_, hI.pick [6, 0, 1, 2, 3, 4, 5, 7, 8] (by decide) rfl⟩
                · refine ge hc4805 ?_
                  refine go_exit rfl ?_
                  refine go_inBlock (rp 3 ?_)
                  replace H := out_some H
                  obtain ⟨_, H, he3⟩ := H
                  have he := (hout3 _ he3).symm
                  subst he
                  replace H := out_some H
                  obtain ⟨_, H, he2⟩ := H
                  have he := (hout2 _ he2).symm
                  subst he
                  exact hin1 _ (Option.some.inj H).symm _ _ ⟨_, A4789, c4790, A4792, c4793, A4795, c4796, A4798, c4799, A4801, c4802, at_, hI.pick [0, 1, 2, 3, 4, 5, 6] (by decide) rfl⟩
        · refine r_in (bg 0 [.p, .l 0 1, .p] (gA (hI.grp 0 rfl)) ?_)
          replace H := bind_some H
          obtain ⟨y4913, hy4914, H⟩ := H
          refine oe 3 rfl ?_
          refine ec (enter65 _) (assizeref05zplaced_calls (some ⟨b3879, q3880, none⟩) c0z1 a0.Txns x3151 (memOf _) _ (Inv.start _) (hI.rd hr0z1) hl0z1 _ hy4914) ?_
          rintro _ _ ⟨rfl, hI'⟩
          replace hI := hI.call0 hI'
          clear hI'
          refine ⟨_, rfl, ?_⟩
          replace H := cond_some H
          rcases H with ⟨hc4915, H⟩ | ⟨hc4915, H⟩
          · refine bx 4 [.p, .c true, .p, .p, .p, .p, .p] gO _ (bZ (bndEq hc4915)) (ro ?_)
            exact hJ3895 true _ _ ⟨_, at_, hI⟩ H
          · refine bx 4 [.p, .c false, .p, .l 0 4, .p, .p, .p] (gA (hI.grp 7 rfl)) _ (bZ (bndEq hc4915)) (ro ?_)
            exact hJ3895 (decide ((((idx a0.Txns x3151).Ops).length : Int) > 16)) _ _ ⟨_, at_, hI⟩ H
      · refine ge hc3153 ?_
        refine go_exit rfl ?_
        refine go_seq (rp 1 ?_)
        replace H := out_some H
        obtain ⟨_, H, he1⟩ := H
        have he := (hout1 _ he1).symm
        subst he
        replace H := Option.some.inj H
        subst H
        exact gr Try.func36 ⟨rfl, hI.pn⟩
  · refine r_in (bg 0 [.p, .l 0 0] (gA (hI.grp 0 rfl)) ?_)
    replace H := bind_some H
    obtain ⟨y4916, hy4917, H⟩ := H
    refine oe 2 rfl ?_
    refine ec (enter64 _) (assizeref05znames_calls A0z0 c0z0 a0.Keys (memOf _) _ (Inv.start _) (hI.rd hr0z0) hl0z0 _ hy4917) ?_
    rintro _ _ ⟨rfl, hI'⟩
    replace hI := hI.call0 hI'
    clear hI'
    refine ⟨_, rfl, ?_⟩
    replace H := cond_some H
    rcases H with ⟨hc4918, H⟩ | ⟨hc4918, H⟩
    · refine bx 3 [.p, .c true, .p, .p, .p, .p, .p] gO _ (bZ (bndEq hc4918)) (ro ?_)
      exact hJ12 true _ _ ⟨_, at_, hI⟩ H
    · refine bx 3 [.p, .c false, .p, .l 0 1, .p, .p, .p] (gA (hI.grp 0 rfl)) _ (bZ (bndEq hc4918)) (ro ?_)
      exact hJ12 (decide ((a0.Txns.length : Int) > 32)) _ _ ⟨_, at_, hI⟩ H
theorem enter92 (a : Array Value) : Sem.pureRun Try.prog (callFunc 92 a) = some (.enter 92 a) := by kernel_rfl
theorem assizeref05zWrites_calls (a0 : Int) (M : Mem) (w : World) (hI : Inv M w []) (r : Bool) (H : assizeref05zWrites a0 = some r) :
    Calls Try.prog 92 #[vI a0] w fun e w' => e = .returned (vB r) ∧ Inv M w' [] := by
  refine cg Try.func92 ?_
  intro cs
  unfold assizeref05zWrites at H
  refine go_seq (rp 1 (go_seq (rp 3 ?_)))
  replace H := Option.some.inj H
  subst H
  exact gr Try.func92 ⟨rfl, hI⟩
theorem enter109 (a : Array Value) : Sem.pureRun Try.prog (callFunc 109 a) = some (.enter 109 a) := by kernel_rfl
theorem assizeref08zCheck_calls (a0 : Int) (A1z : Option Addr) (c1z : Nat) (a1 : List Int) (M : Mem) (w : World) (hI : Inv M w []) (hr1z : rdS (tInt .i64) M.blk A1z a1) (hl1z : a1.length ≤ c1z) (r : Int) (H : assizeref08zCheck a0 a1 = some r) :
    Calls Try.prog 109 #[vI a0, vS A1z a1.length c1z] w fun e w' => e = .returned (vI r) ∧ Inv M w' [] := by
  refine cg Try.func109 ?_
  intro cs
  unfold assizeref08zCheck at H
  refine go_seq (rp 1 (go_seq ?_))
  refine go_seq_join (o := r) (fun b5 f w => ∃ (j : Nat → Value), f = updL j [(0, vI a0), (1, vS A1z a1.length c1z), (12, vB b5)] ∧ Inv M w []) (fun b5 => assizeref08zCheck.j1 a0 a1 b5) ?_ (fun hJ6 => ?_)
  · clear H hI
    rintro b5 _ _ ⟨_, rfl, hI⟩ H
    replace H := cond_some H
    rcases H with ⟨hc7, H⟩ | ⟨hc7, H⟩
    · refine gt hc7 (go_seq (rp 1 ?_))
      replace H := Option.some.inj H
      subst H
      exact gr Try.func109 ⟨rfl, hI⟩
    · refine ge hc7 (go_skip (go_seq (rp 4 (go_seq (go_seq (rp 1 ?_))))))
      refine go_block_join (o := r) (fun b81 f w => ∃ (j : Nat → Value), f = updL j [(5, vB b81)] ∧ Inv M w []) (fun b81 => assizeref08zCheck.j2 b81) ?_ (fun hJ82 => ?_)
      · clear H hI
        rintro b81 _ _ ⟨_, rfl, hI⟩ H
        refine go_seq (go_seq (rp 2 ?_))
        replace H := cond_some H
        rcases H with ⟨hc84, H⟩ | ⟨hc84, H⟩
        · refine gt hc84 (go_seq (rp 1 ?_))
          replace H := Option.some.inj H
          subst H
          exact gr Try.func109 ⟨rfl, hI⟩
        · refine ge hc84 (go_skip (go_seq (rp 1 ?_)))
          replace H := Option.some.inj H
          subst H
          exact gr Try.func109 ⟨rfl, hI⟩
      · refine go_seq (rp 2 ?_)
        replace H := cond_some H
        rcases H with ⟨hc85, H⟩ | ⟨hc85, H⟩
        · refine gt hc85 (rp 4 (go_inBlock ?_))
          exact hJ82 (decide ((a1.length : Int) ≤ 1)) _ _ ⟨_, at_, hI⟩ H
        · refine ge hc85 (go_seq (rp 2 ?_))
          replace H := cond_some H
          rcases H with ⟨hc86, H⟩ | ⟨hc86, H⟩
          · refine gt hc86 (rp 4 (go_inBlock ?_))
            exact hJ82 ((a1.length : Int) == 1) _ _ ⟨_, at_, hI⟩ H
          · refine ge hc86 (go_seq (rp 2 ?_))
            replace H := cond_some H
            rcases H with ⟨hc87, H⟩ | ⟨hc87, H⟩
            · refine gt hc87 (go_seq (rp 1 (go_block ?_)))
              refine go_iter (assizeref08zCheck.s3 a1) (fun (b145, x146) f w => ∃ (j : Nat → Value), f = updL j [(1, vS A1z a1.length c1z), (5, vB b145), (6, vI x146)] ∧ Inv M w []) H ⟨_, at_, hI⟩ ?_
              clear H hI
              rintro ⟨b145, x146⟩ _ _ o1 H ⟨_, rfl, hI⟩ hin1 hout1
              refine go_seq (go_seq (rp 4 ?_))
              replace H := cond_some H
              rcases H with ⟨hc148, H⟩ | ⟨hc148, H⟩
              · refine gt hc148 (go_skip (go_seq ?_))
                refine go_block_join (o := o1) (fun b160 f w => ∃ (j : Nat → Value), f = updL j [(1, vS A1z a1.length c1z), (5, vB b160), (6, vI x146)] ∧ Inv M w []) (fun b160 => assizeref08zCheck.j4 x146 b160) ?_ (fun hJ161 => ?_)
                · clear H hI
                  rintro b160 _ _ ⟨_, rfl, hI⟩ H
                  refine rp 3 ?_
                  exact hin1 _ (Option.some.inj H).symm _ _ ⟨_, at_, hI⟩
                · replace H := cond_some H
                  rcases H with ⟨hc162, H⟩ | ⟨hc162, H⟩
                  · replace H := must_some H
                    obtain ⟨g163, H⟩ := H
                    obtain ⟨b164, q165, rfl, _⟩ := rdS.fopen hr1z rfl g163
                    replace H := must_some H
                    obtain ⟨g166, H⟩ := H
                    refine dx [.p, .c true, .p, .p, .p, .x, .l 0 0, .p, .p, .x, .l 1 0, .p, .p, .p] (gB (hI.lies (rdS.flook hr1z rfl g163)) (hI.lies (rdS.flook hr1z rfl g166))) _ (bC (bndEq hc162) (bC g163 (bZ g166))) hI ?_
                    clear hI
                    intro _ hI
                    refine go_inBlock ?_
                    exact hJ161 (decide (idx a1 (w64 (x146 - 1)) < idx a1 x146)) _ _ ⟨_, at_, hI⟩ H
                  · refine dx [.p, .c false, .p, .p, .p, .p, .p, .p, .p, .p, .p, .p, .p, .p] gO _ (bZ (bndEq hc162)) hI ?_
                    clear hI
                    intro _ hI
                    refine go_inBlock ?_
                    exact hJ161 false _ _ ⟨_, at_, hI⟩ H
              · refine ge hc148 ?_
                refine go_exit rfl ?_
                refine go_inBlock ?_
                replace H := out_some H
                obtain ⟨_, H, he1⟩ := H
                have he := (hout1 _ he1).symm
                subst he
                exact hJ82 b145 _ _ ⟨_, at_, hI⟩ H
            · refine ge hc87 (go_skip (go_inBlock ?_))
              exact hJ82 (decide ((a1.length : Int) ≤ 64)) _ _ ⟨_, at_, hI⟩ H
  · refine r_in ?_
    replace H := cond_some H
    rcases H with ⟨hc167, H⟩ | ⟨hc167, H⟩
    · refine bx 0 [.p, .p, .c true, .p, .p, .p] gO _ (bZ (bndEq hc167)) (ro ?_)
      exact hJ6 true _ _ ⟨_, at_, hI⟩ H
    · refine bx 0 [.p, .p, .c false, .p, .p, .p] gO _ (bZ (bndEq hc167)) (ro ?_)
      exact hJ6 (decide (a0 > 4)) _ _ ⟨_, at_, hI⟩ H
theorem enter110 (a : Array Value) : Sem.pureRun Try.prog (callFunc 110 a) = some (.enter 110 a) := by kernel_rfl
theorem assizeref08zin_calls (A0z : Option Addr) (c0z : Nat) (a0 : List Int) (a1 : Int) (M : Mem) (w : World) (hI : Inv M w []) (hr0z : rdS (tInt .i64) M.blk A0z a0) (hl0z : a0.length ≤ c0z) (r : Bool) (H : assizeref08zin a0 a1 = some r) :
    Calls Try.prog 110 #[vS A0z a0.length c0z, vI a1] w fun e w' => e = .returned (vB r) ∧ Inv M w' [] := by
  refine cg Try.func110 ?_
  intro cs
  unfold assizeref08zin at H
  refine go_seq (rp 1 (go_seq (go_seq (rp 1 (go_block ?_)))))
  refine go_iter (assizeref08zin.s1 a0 a1) (fun x58 f w => ∃ (j : Nat → Value), f = updL j [(0, vS A0z a0.length c0z), (1, vI a1), (5, vI x58)] ∧ Inv M w []) H ⟨_, at_, hI⟩ ?_
  clear H hI
  rintro x58 _ _ o1 H ⟨_, rfl, hI⟩ hin1 hout1
  refine go_seq (go_seq (rp 4 ?_))
  replace H := cond_some H
  rcases H with ⟨hc60, H⟩ | ⟨hc60, H⟩
  · refine gt hc60 (go_skip (go_seq (go_block (go_seq (r_in ?_)))))
    replace H := must_some H
    obtain ⟨g72, H⟩ := H
    obtain ⟨b73, q74, rfl, _⟩ := rdS.fopen hr0z rfl g72
    refine bx 0 [.p, .p, .x, .l 0 0, .p, .p] (gA (hI.lies (rdS.flook hr0z rfl g72))) _ (bZ g72) (ro ?_)
    replace H := cond_some H
    rcases H with ⟨hc75, H⟩ | ⟨hc75, H⟩
    · refine gt hc75 (go_seq (rp 1 ?_))
      replace H := out_some H
      obtain ⟨_, H, he1⟩ := H
      have he := (hout1 _ he1).symm
      subst he
      replace H := Option.some.inj H
      subst H
      exact gr Try.func110 ⟨rfl, hI⟩
    · refine ge hc75 (go_skip (go_inBlock (rp 3 ?_)))
      exact hin1 _ (Option.some.inj H).symm _ _ ⟨_, at_, hI⟩
  · refine ge hc60 ?_
    refine go_exit rfl ?_
    refine go_seq (rp 1 ?_)
    replace H := out_some H
    obtain ⟨_, H, he1⟩ := H
    have he := (hout1 _ he1).symm
    subst he
    replace H := Option.some.inj H
    subst H
    exact gr Try.func110 ⟨rfl, hI⟩
theorem enter93 (a : Array Value) : Sem.pureRun Try.prog (callFunc 93 a) = some (.enter 93 a) := by kernel_rfl
theorem assizeref08zBefore_calls (a0 : Int) (A1z : Option Addr) (c1z : Nat) (a1 : List Int) (A2z : Option Addr) (c2z : Nat) (a2 : List Int) (M : Mem) (w : World) (hI : Inv M w []) (hr1z : rdS (tInt .i64) M.blk A1z a1) (hl1z : a1.length ≤ c1z) (hr2z : rdS (tInt .i64) M.blk A2z a2) (hl2z : a2.length ≤ c2z) (r : List Int × Bool) (H : assizeref08zBefore a0 a1 a2 = some r) :
    Calls Try.prog 93 #[vI a0, vS A1z a1.length c1z, vS A2z a2.length c2z] w fun e w' => ∃ (A859 : Option Addr), ∃ (c860 : Nat), e = .returned (.tuple #[vS A859 r.1.length c860, vB r.2]) ∧ Inv M w' [.row (tInt .i64) 2 A859 r.1.length c860 r.1] := by
  refine cg Try.func93 ?_
  intro cs
  unfold assizeref08zBefore at H
  refine go_seq (rp 2 (go_seq (rp 3 (go_seq ?_))))
  refine go_seq_join (o := r) (fun b9 f w => ∃ (j : Nat → Value), f = updL j [(0, vI a0), (1, vS A1z a1.length c1z), (2, vS A2z a2.length c2z), (8, vI (a2.length : Int)), (24, vB b9)] ∧ Inv M w []) (fun b9 => assizeref08zBefore.j1 a0 a1 a2 b9) ?_ (fun hJ10 => ?_)
  · clear H hI
    rintro b9 _ _ ⟨_, rfl, hI⟩ H
    replace H := cond_some H
    rcases H with ⟨hc11, H⟩ | ⟨hc11, H⟩
    · refine gt hc11 (go_seq (rp 2 ?_))
      replace H := Option.some.inj H
      subst H
      exact gr Try.func93 ⟨none, 0, rfl, (hI.nilrow (tInt .i64) 2)⟩
    · refine ge hc11 (go_skip (go_seq (go_seq (rp 1 (go_block (go_seq (rp 2 ?_)))))))
      replace H := cond_some H
      rcases H with ⟨hc172, H⟩ | ⟨hc172, H⟩
      · refine gt hc172 (go_seq ?_)
        replace H := cond_some H
        rcases H with ⟨hc180, H⟩ | ⟨hc180, H⟩
        · replace H := must_some H
          obtain ⟨g181, H⟩ := H
          obtain ⟨b182, q183, rfl, _⟩ := rdS.fopen hr1z rfl g181
          replace H := must_some H
          obtain ⟨g184, H⟩ := H
          obtain ⟨b185, q186, rfl, _⟩ := rdS.fopen hr2z rfl g184
          refine dx [.p, .p, .p, .c true, .p, .x, .l 0 0, .p, .p, .p, .x, .l 1 0, .p, .p, .p, .p] (gB (hI.lies (rdS.flook hr1z rfl g181)) (hI.lies (rdS.flook hr2z rfl g184))) _ (bC (bndEq hc180) (bC g181 (bZ g184))) hI ?_
          clear hI
          intro _ hI
          replace H := Option.some.inj H
          subst H
          exact gr Try.func93 ⟨none, 0, rfl, (hI.nilrow (tInt .i64) 2)⟩
        · refine dx [.p, .p, .p, .c false, .p, .p, .p, .p, .p, .p, .p, .p, .p, .p, .p, .p] gO _ (bZ (bndEq hc180)) hI ?_
          clear hI
          intro _ hI
          replace H := Option.some.inj H
          subst H
          exact gr Try.func93 ⟨none, 0, rfl, (hI.nilrow (tInt .i64) 2)⟩
      · refine ge hc172 (go_seq (rp 2 ?_))
        replace H := cond_some H
        rcases H with ⟨hc187, H⟩ | ⟨hc187, H⟩
        · refine gt hc187 (go_seq (r_in ?_))
          replace H := must_some H
          obtain ⟨g191, H⟩ := H
          obtain ⟨b192, q193, rfl, _⟩ := rdS.fopen hr1z rfl g191
          refine bx 0 [.p, .x, .l 0 0, .p] (gA (hI.lies (rdS.flook hr1z rfl g191))) _ (bZ g191) (ro (go_seq (go_seq (rp 1 (go_block ?_)))))
          refine go_iter (assizeref08zBefore.s2 a2) (fun (x260, x261) f w => ∃ (j : Nat → Value), f = updL j [(2, vS A2z a2.length c2z), (8, vI (a2.length : Int)), (9, vI x260), (10, vI x261)] ∧ Inv M w []) H ⟨_, at_, hI⟩ ?_
          clear H hI
          rintro ⟨x260, x261⟩ _ _ o1 H ⟨_, rfl, hI⟩ hin1 hout1
          refine go_seq (go_seq (rp 3 ?_))
          replace H := cond_some H
          rcases H with ⟨hc263, H⟩ | ⟨hc263, H⟩
          · refine gt hc263 (go_skip (go_seq (go_block (r_in ?_))))
            replace H := must_some H
            obtain ⟨g270, H⟩ := H
            obtain ⟨b271, q272, rfl, _⟩ := rdS.fopen hr2z rfl g270
            refine bx 0 [.p, .p, .p, .x, .l 0 0, .p, .p] (gA (hI.lies (rdS.flook hr2z rfl g270))) _ (bZ g270) (ro (go_inBlock (rp 3 ?_)))
            exact hin1 _ (Option.some.inj H).symm _ _ ⟨_, at_, hI⟩
          · refine ge hc263 ?_
            refine go_exit rfl ?_
            refine go_seq (r_in (bp 0 1 (oe 1 rfl ?_)))
            refine e_partsS 35 2 1 _ _ _ #[vI x260] [vI x260] rfl rfl rfl rfl (by kernel_rfl) (by kernel_rfl) (by kernel_rfl) (by kernel_rfl) hI ?_
            clear hI
            intro b275 _ hs276 hI
            replace hI := hI.asrow (k := (tInt .i64)) (xs := ([x260] : List Int)) (cs := [vI x260]) (R := []) (L' := []) 1 0 [] [] (by decide) rfl (mks_cons (mk_flat (k := (tInt .i64)) x260 [vI x260] rfl) mks_nil) rfl rfl (by kernel_rfl)
            refine bp 2 2 (ro ?_)
            refine go_is 6 (vS (some ⟨b275, 0, none⟩) 1 1) (vS (some ⟨b275, 0, none⟩) (([x260] : List Int).length) 1) (by kernel_rfl) (by first | rfl | simp only [List.length_set, List.length_replicate, List.length_nil]) ?_
            replace hI := hI.renum 0 rfl
            replace H := out_some H
            obtain ⟨_, H, he1⟩ := H
            have he := (hout1 _ he1).symm
            subst he
            replace H := Option.some.inj H
            subst H
            exact gr Try.func93 ⟨(some ⟨b275, 0, none⟩), 1, rfl, hI⟩
        · refine ge hc187 (go_seq (rp 2 ?_))
          replace H := cond_some H
          rcases H with ⟨hc277, H⟩ | ⟨hc277, H⟩
          · refine gt hc277 (go_seq (go_seq (rp 4 ?_)))
            replace H := cond_some H
            rcases H with ⟨hc279, H⟩ | ⟨hc279, H⟩
            · refine gt hc279 (go_seq (rp 2 ?_))
              replace H := Option.some.inj H
              subst H
              exact gr Try.func93 ⟨none, 0, rfl, (hI.nilrow (tInt .i64) 2)⟩
            · refine ge hc279 (go_skip (go_seq (go_seq (rp 1 (go_block ?_)))))
              refine go_iter (assizeref08zBefore.s3 a1 a2) (fun x361 f w => ∃ (j : Nat → Value), f = updL j [(1, vS A1z a1.length c1z), (2, vS A2z a2.length c2z), (8, vI (a2.length : Int)), (11, vI x361)] ∧ Inv M w []) H ⟨_, at_, hI⟩ ?_
              clear H hI
              rintro x361 _ _ o1 H ⟨_, rfl, hI⟩ hin1 hout1
              refine go_seq (go_seq (rp 3 ?_))
              replace H := cond_some H
              rcases H with ⟨hc363, H⟩ | ⟨hc363, H⟩
              · refine gt hc363 (go_skip (go_seq (go_block (go_seq ?_))))
                replace H := must_some H
                obtain ⟨g384, H⟩ := H
                obtain ⟨b385, q386, rfl, _⟩ := rdS.fopen hr1z rfl g384
                replace H := must_some H
                obtain ⟨g387, H⟩ := H
                obtain ⟨b388, q389, rfl, _⟩ := rdS.fopen hr2z rfl g387
                refine dx [.p, .p, .p, .p, .p, .p, .p, .x, .l 0 0, .p, .p, .x, .l 1 0, .p] (gB (hI.lies (rdS.flook hr1z rfl g384)) (hI.lies (rdS.flook hr2z rfl g387))) _ (bC g384 (bZ g387)) hI ?_
                clear hI
                intro _ hI
                replace H := cond_some H
                rcases H with ⟨hc390, H⟩ | ⟨hc390, H⟩
                · refine gt hc390 (go_seq (rp 2 ?_))
                  replace H := out_some H
                  obtain ⟨_, H, he1⟩ := H
                  have he := (hout1 _ he1).symm
                  subst he
                  replace H := Option.some.inj H
                  subst H
                  exact gr Try.func93 ⟨none, 0, rfl, (hI.nilrow (tInt .i64) 2)⟩
                · refine ge hc390 (go_skip (go_inBlock (rp 3 ?_)))
                  exact hin1 _ (Option.some.inj H).symm _ _ ⟨_, at_, hI⟩
              · refine ge hc363 ?_
                refine go_exit rfl ?_
                refine go_seq (r_in (oe 0 rfl ?_))
                refine e_empty (α := Int) (tInt .i64) 35 2 _ rfl rfl rfl hI ?_
                clear hI
                intro b400 _ hI
                refine bp 1 5 ?_
                replace H := must_some H
                obtain ⟨g401, H⟩ := H
                refine oe 6 rfl ?_
                refine e_slice_ro (tInt .i64) _ 35 2 _ _ _ _ A1z c1z a1 .i64 .i64 (0 : Int) (w64 ((a1.length : Int) - (a2.length : Int))) rfl (by kernel_rfl) (by kernel_rfl) (by kernel_rfl) rfl rfl rfl hr1z hl1z g401 ?_
                intro A402 c403 hr404 hl405
                replace H := must_some H
                obtain ⟨g406, H⟩ := H
                refine oe 7 rfl ?_
                refine e_append_rd (kt := (tInt .i64)) 35 0 2 _ _ _ _ (some ⟨b400, 0, none⟩) A402 0 0 ([] : List Int) (subl a1 (0 : Int) (w64 ((a1.length : Int) - (a2.length : Int)))) c403 0 [] [] rfl (by kernel_rfl) (by kernel_rfl) rfl rfl rfl rfl rfl (by kernel_rfl) hI (by decide) rfl (hI.rd hr404) g406 ?_
                clear hI
                intro A407 c408 _ hI
                refine bp 8 2 (ro ?_)
                replace H := out_some H
                obtain ⟨_, H, he1⟩ := H
                have he := (hout1 _ he1).symm
                subst he
                replace H := Option.some.inj H
                subst H
                exact gr Try.func93 ⟨A407, c408, rfl, hI⟩
          · refine ge hc277 (go_skip (go_inBlock (go_seq (rp 1 (go_seq (go_seq (rp 1 (go_block ?_))))))))
            refine go_iter (assizeref08zBefore.s4 a1 a2) (fun x554 f w => ∃ (j : Nat → Value), f = updL j [(1, vS A1z a1.length c1z), (2, vS A2z a2.length c2z), (8, vI (a2.length : Int)), (12, vS none 0 0), (13, vI x554)] ∧ Inv M w []) H ⟨_, at_, hI⟩ ?_
            clear H hI
            rintro x554 _ _ o1 H ⟨_, rfl, hI⟩ hin1 hout1
            refine go_seq (go_seq (rp 3 ?_))
            replace H := cond_some H
            rcases H with ⟨hc556, H⟩ | ⟨hc556, H⟩
            · refine gt hc556 (go_skip (go_seq (go_block ?_)))
              refine go_seq_join (o := o1) (fun b600 f w => ∃ (j : Nat → Value), f = updL j [(1, vS A1z a1.length c1z), (2, vS A2z a2.length c2z), (8, vI (a2.length : Int)), (12, vS none 0 0), (13, vI x554), (114, vB b600)] ∧ Inv M w []) (fun b600 => assizeref08zBefore.j5 x554 b600) ?_ (fun hJ601 => ?_)
              · clear H hI
                rintro b600 _ _ ⟨_, rfl, hI⟩ H
                replace H := cond_some H
                rcases H with ⟨hc602, H⟩ | ⟨hc602, H⟩
                · refine gt hc602 (go_seq (rp 2 ?_))
                  replace H := out_some H
                  obtain ⟨_, H, he1⟩ := H
                  have he := (hout1 _ he1).symm
                  subst he
                  replace H := Option.some.inj H
                  subst H
                  exact gr Try.func93 ⟨none, 0, rfl, (hI.nilrow (tInt .i64) 2)⟩
                · refine ge hc602 (go_skip (go_inBlock (rp 3 ?_)))
                  exact hin1 _ (Option.some.inj H).symm _ _ ⟨_, at_, hI⟩
              · replace H := must_some H
                obtain ⟨g603, H⟩ := H
                obtain ⟨b604, q605, rfl, _⟩ := rdS.fopen hr2z rfl g603
                replace H := bind_some H
                obtain ⟨y606, hy607, H⟩ := H
                replace H := cond_some H
                rcases H with ⟨hc608, H⟩ | ⟨hc608, H⟩
                · refine go_held (fun w => Inv M w []) (by kernel_rfl) ?_
                  replace hI := hI.drew'
                  refine hx (n := 12) [(0, .p), (1, .p), (2, .p), (3, .x), (4, .l 0 0)] (fun _ hS => (gA (hS.lies (rdS.flook hr2z rfl g603)))) hI _ (bZ g603) ?_
                  refine ho (n := 11) 5 rfl (ec (enter110 _) (assizeref08zin_calls A1z c1z a1 (idx a2 x554) (memOf _) _ (Inv.start _) (hI.rd hr1z) hl1z _ hy607) ?_)
                  rintro _ _ ⟨rfl, hI'⟩
                  replace hI := hI.call0 hI'
                  clear hI'
                  refine ⟨_, rfl, ?_⟩
                  refine ⟨hI, ?_⟩
                  refine hx (n := 0) [(6, .p), (7, .c true), (8, .p), (9, .p), (10, .p), (11, .p), (12, .p), (13, .p), (14, .p), (15, .p), (16, .p)] (fun _ hS => gO) hI _ (bZ (bndEq hc608)) (hd ?_)
                  exact hJ601 true _ _ ⟨_, at_, hI⟩ H
                · replace H := must_some H
                  obtain ⟨g609, H⟩ := H
                  replace H := bind_some H
                  obtain ⟨y614, hy615, H⟩ := H
                  refine go_held (fun w => Inv M w []) (by kernel_rfl) ?_
                  replace hI := hI.drew'
                  refine hx (n := 12) [(0, .p), (1, .p), (2, .p), (3, .x), (4, .l 0 0)] (fun _ hS => (gA (hS.lies (rdS.flook hr2z rfl g603)))) hI _ (bZ g603) ?_
                  refine ho (n := 11) 5 rfl (ec (enter110 _) (assizeref08zin_calls A1z c1z a1 (idx a2 x554) (memOf _) _ (Inv.start _) (hI.rd hr1z) hl1z _ hy607) ?_)
                  rintro _ _ ⟨rfl, hI'⟩
                  replace hI := hI.call0 hI'
                  clear hI'
                  refine ⟨_, rfl, ?_⟩
                  refine ⟨hI, ?_⟩
                  refine hx (n := 3) [(6, .p), (7, .c false), (8, .p), (9, .p), (11, .p), (12, .p), (13, .x), (14, .l 0 0)] (fun _ hS => (gA (hS.lies (rdS.flook hr2z rfl g603)))) hI _ (bC (bndEq hc608) (bZ g603)) ?_
                  refine ho (n := 2) 10 rfl (e_slice_ro (tInt .i64) _ 35 2 _ _ _ _ (some ⟨b604, q605, none⟩) c2z a2 .i64 .i64 (0 : Int) x554 rfl (by kernel_rfl) (by kernel_rfl) (by kernel_rfl) rfl rfl rfl hr2z hl2z g609 ?_)
                  intro A610 c611 hr612 hl613
                  refine ⟨hI, ?_⟩
                  refine ho (n := 1) 15 rfl (ec (enter110 _) (assizeref08zin_calls A610 c611 (subl a2 (0 : Int) x554) (idx a2 x554) (memOf _) _ (Inv.start _) (hI.rd hr612) hl613 _ hy615) ?_)
                  rintro _ _ ⟨rfl, hI'⟩
                  replace hI := hI.call0 hI'
                  clear hI'
                  refine ⟨_, rfl, ?_⟩
                  refine ⟨hI, ?_⟩
                  refine hg (n := 0) [(16, .p)] (fun _ hS => gO) hI (hd ?_)
                  exact hJ601 y614 _ _ ⟨_, at_, hI⟩ H
            · refine ge hc556 ?_
              refine go_exit rfl ?_
              refine go_seq (go_seq (rp 1 (go_block ?_)))
              refine go_iter (assizeref08zBefore.s6 a1 a2) (fun (l804, x807) f w => ∃ (j : Nat → Value) (A805 : Option Addr) (c806 : Nat), f = updL j [(1, vS A1z a1.length c1z), (2, vS A2z a2.length c2z), (12, vS A805 l804.length c806), (14, vI x807)] ∧ Inv M w [.row (tInt .i64) 2 A805 l804.length c806 l804]) H ⟨_, none, 0, at_, (hI.nilrow (tInt .i64) 2)⟩ ?_
              clear H hI
              rintro ⟨l804, x807⟩ _ _ o2 H ⟨_, A805, c806, rfl, hI⟩ hin2 hout2
              refine go_seq (go_seq (rp 4 ?_))
              replace H := cond_some H
              rcases H with ⟨hc809, H⟩ | ⟨hc809, H⟩
              · refine gt hc809 (go_skip (go_seq ?_))
                refine go_block_join (o := o2) (fun l835 f w => ∃ (j : Nat → Value) (A836 : Option Addr) (c837 : Nat), f = updL j [(1, vS A1z a1.length c1z), (2, vS A2z a2.length c2z), (12, vS A836 l835.length c837), (14, vI x807)] ∧ Inv M w [.row (tInt .i64) 2 A836 l835.length c837 l835]) (fun l835 => assizeref08zBefore.j7 x807 l835) ?_ (fun hJ838 => ?_)
                · clear H hI
                  rintro l835 _ _ ⟨_, A836, c837, rfl, hI⟩ H
                  refine rp 3 ?_
                  exact hin2 _ (Option.some.inj H).symm _ _ ⟨_, A836, c837, at_, hI⟩
                · refine go_seq (r_in ?_)
                  replace H := must_some H
                  obtain ⟨g844, H⟩ := H
                  obtain ⟨b845, q846, rfl, _⟩ := rdS.fopen hr1z rfl g844
                  refine bx 0 [.p, .p, .p, .x, .l 0 0] (gA (hI.lies (rdS.flook hr1z rfl g844))) _ (bZ g844) ?_
                  replace H := bind_some H
                  obtain ⟨y847, hy848, H⟩ := H
                  refine oe 5 rfl ?_
                  refine ec (enter110 _) (assizeref08zin_calls A2z c2z a2 (idx a1 x807) (memOf _) _ (Inv.start _) (hI.rd hr2z) hl2z _ hy848) ?_
                  rintro _ _ ⟨rfl, hI'⟩
                  replace hI := hI.call0 hI'
                  clear hI'
                  refine ⟨_, rfl, ?_⟩
                  refine bp 6 1 (ro ?_)
                  replace H := cond_some H
                  rcases H with ⟨hc849, H⟩ | ⟨hc849, H⟩
                  · refine gt hc849 (r_in (bx 0 [.p, .p, .p, .x, .l 0 0] (gA (hI.lies (rdS.flook hr1z rfl g844))) _ (bZ g844) (oe 5 rfl ?_)))
                    refine e_partsS 35 2 1 _ _ _ #[vI (idx a1 x807)] [vI (idx a1 x807)] rfl rfl rfl rfl (by kernel_rfl) (by kernel_rfl) (by kernel_rfl) (by kernel_rfl) hI ?_
                    clear hI
                    intro b850 _ hs851 hI
                    replace H := must_some H
                    obtain ⟨g852, H⟩ := H
                    refine oe 6 rfl ?_
                    refine e_append (tInt .i64) 35 0 2 _ _ _ _ A805 l804.length c806 l804 ([idx a1 x807] : List Int) b850 0 1 1 [vI (idx a1 x807)] 0 [] [1] [] [.blk b850 2 [vI (idx a1 x807)]] rfl (by kernel_rfl) (by kernel_rfl) rfl rfl rfl rfl rfl (by kernel_rfl) hI (by decide) rfl rfl rfl (hI.grp 1 rfl) g852 (mks_cons (mk_flat (k := (tInt .i64)) (idx a1 x807) [vI (idx a1 x807)] rfl) mks_nil) ?_
                    clear hI
                    intro A853 c854 _ hI
                    replace hI := hI.pick (L' := [.row (tInt .i64) 2 A853 ((l804 ++ ([idx a1 x807] : List Int)).length) c854 (l804 ++ ([idx a1 x807] : List Int))]) [0] (by decide) rfl
                    refine bp 7 1 (ro (go_inBlock ?_))
                    exact hJ838 (l804 ++ ([idx a1 x807] : List Int)) _ _ ⟨_, A853, c854, at_, hI⟩ H
                  · refine ge hc849 (go_skip (go_inBlock ?_))
                    exact hJ838 l804 _ _ ⟨_, A805, c806, at_, hI⟩ H
              · refine ge hc809 ?_
                refine go_exit rfl ?_
                refine go_seq (rp 3 ?_)
                replace H := out_some H
                obtain ⟨_, H, he2⟩ := H
                have he := (hout2 _ he2).symm
                subst he
                replace H := out_some H
                obtain ⟨_, H, he1⟩ := H
                have he := (hout1 _ he1).symm
                subst he
                replace H := Option.some.inj H
                subst H
                exact gr Try.func93 ⟨A805, c806, rfl, hI⟩
  · refine r_in (bp 0 2 ?_)
    replace H := bind_some H
    obtain ⟨y855, hy856, H⟩ := H
    refine oe 2 rfl ?_
    refine ec (enter109 _) (assizeref08zCheck_calls a0 A1z c1z a1 (memOf _) _ (Inv.start _) (hI.rd hr1z) hl1z _ hy856) ?_
    rintro _ _ ⟨rfl, hI'⟩
    replace hI := hI.call0 hI'
    clear hI'
    refine ⟨_, rfl, ?_⟩
    replace H := cond_some H
    rcases H with ⟨hc857, H⟩ | ⟨hc857, H⟩
    · refine bx 3 [.p, .c true, .p, .p, .p] gO _ (bZ (bndEq hc857)) (ro ?_)
      exact hJ10 true _ _ ⟨_, at_, hI⟩ H
    · refine bx 3 [.p, .c false, .p, .p, .p] gO _ (bZ (bndEq hc857)) (ro ?_)
      exact hJ10 ((a2.length : Int) == 0) _ _ ⟨_, at_, hI⟩ H
end Go.Proofs.YtnlkggppokcmfaaT
