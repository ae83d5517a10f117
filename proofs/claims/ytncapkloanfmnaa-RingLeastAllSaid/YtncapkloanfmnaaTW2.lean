/- The walks, part 2: each call computes its plain function. -/
import Derived.Test.YtncapkloanfmnaaTW1
import Derived.Test.YtncapkloanfmnaaProg
namespace Go.Proofs.YtncapkloanfmnaaT
open Go Go.Proofs Go.Proofs.YtncapkloanfmnaaE
set_option linter.unusedVariables false
set_option linter.unusedSimpArgs false
set_option maxHeartbeats 0
set_option maxRecDepth 4096
/-! ### assizelaw07zalive -/
theorem enter8 (a : Array Value) : Sem.pureRun Try.prog (callFunc 8 a) = some (.enter 8 a) := by kernel_rfl
theorem assizelaw07zalive_calls  (M : Mem) (w : World) (hI : Inv M w []) (r : Bool) (H : assizelaw07zalive = some r) :
    Calls Try.prog 8 #[] w fun e w' => e = .returned (vB r) ∧ Inv M w' [] := by
  refine cg Try.func8 ?_
  intro cs
  unfold assizelaw07zalive at H
  refine go_seq (rp 1 (go_seq (r_in (bp 0 2 (oe 2 rfl ?_)))))
  refine e_partsS 22 41 2 _ _ _ #[vI 0, vI 1, vI 8, vI 0, vI 1, vI 0, vI 16, vI 0] [vI 0, vI 1, vI 8, vI 0, vI 1, vI 0, vI 16, vI 0] rfl rfl rfl rfl (by kernel_rfl) (by kernel_rfl) (by kernel_rfl) (by kernel_rfl) hI ?_
  clear hI
  intro b4 _ hs5 hI
  replace hI := hI.asrow (k := kEdge) (xs := ([(⟨0, 1, 8, 0⟩ : Edge), (⟨1, 0, 16, 0⟩ : Edge)] : List Edge)) (cs := [vI 0, vI 1, vI 8, vI 0, vI 1, vI 0, vI 16, vI 0]) (R := []) (L' := []) 2 0 [] [] (by decide) rfl (mks_cons (mk_flat (k := kEdge) (⟨0, 1, 8, 0⟩ : Edge) [vI 0, vI 1, vI 8, vI 0] rfl) (mks_cons (mk_flat (k := kEdge) (⟨1, 0, 16, 0⟩ : Edge) [vI 1, vI 0, vI 16, vI 0] rfl) mks_nil)) rfl rfl (by kernel_rfl)
  refine bp 3 1 (oe 4 rfl ?_)
  refine e_alloc 24 (.agg #[vI 0, vS none 0 0]) [vI 0, vS none 0 0] rfl (by kernel_rfl) rfl hI ?_
  clear hI
  intro b6 _ hI
  refine oe 5 rfl ?_
  refine e_store 24 _ _ 1 b6 24 [vI 0, vS none 0 0] [vI 2, vS (some ⟨b4, 0, none⟩) 2 2] 0 (.agg #[vI 2, vS (some ⟨b4, 0, none⟩) 2 2]) rfl (by kernel_rfl) (by kernel_rfl) (by kernel_rfl) (by kernel_rfl) hI rfl (by kernel_rfl) (by kernel_rfl) ?_
  clear hI
  intro _ hI
  refine ro (go_seq (r_in (bg 0 [.l 0 0] (gA (hI.grp 1 rfl)) ?_)))
  replace H := bind_some H
  obtain ⟨y11, hy12, H⟩ := H
  refine o_is 8 (vS (some ⟨b4, 0, none⟩) 2 2) (vS (some ⟨b4, 0, none⟩) (([(⟨0, 1, 8, 0⟩ : Edge), (⟨1, 0, 16, 0⟩ : Edge)] : List Edge).length) 2) (by kernel_rfl) (by first | rfl | simp only [List.length_set, List.length_replicate, List.length_nil]) ?_
  refine o_is 9 (.agg #[vI 2, vS (some ⟨b4, 0, none⟩) 2 2]) (.agg #[vI 2, vS (some ⟨b4, 0, none⟩) (([(⟨0, 1, 8, 0⟩ : Edge), (⟨1, 0, 16, 0⟩ : Edge)] : List Edge).length) 2]) (by kernel_rfl) (by first | rfl | simp only [List.length_set, List.length_replicate, List.length_nil]) ?_
  refine o_is 11 (.agg #[vI 2, vS (some ⟨b4, 0, none⟩) 2 2]) (.agg #[vI 2, vS (some ⟨b4, 0, none⟩) (([(⟨0, 1, 8, 0⟩ : Edge), (⟨1, 0, 16, 0⟩ : Edge)] : List Edge).length) 2]) (by kernel_rfl) (by first | rfl | simp only [List.length_set, List.length_replicate, List.length_nil]) ?_
  refine o_is 11 (.agg #[vI 2, vS (some ⟨b4, 0, none⟩) 2 2]) (.agg #[vI 2, vS (some ⟨b4, 0, none⟩) (([(⟨0, 1, 8, 0⟩ : Edge), (⟨1, 0, 16, 0⟩ : Edge)] : List Edge).length) 2]) (by kernel_rfl) (by first | rfl | simp only [List.length_set, List.length_replicate, List.length_nil]) ?_
  replace hI := hI.renum 0 rfl
  replace hI := hI.recell 1 [vI 2, vS (some ⟨b4, 0, none⟩) (([(⟨0, 1, 8, 0⟩ : Edge), (⟨1, 0, 16, 0⟩ : Edge)] : List Edge).length) 2] (by first | rfl | simp only [List.length_set, List.length_replicate, List.length_nil]) rfl
  refine oe 1 rfl ?_
  refine ec (enter13 _) (ring_Single_calls (⟨2, ([(⟨0, 1, 8, 0⟩ : Edge), (⟨1, 0, 16, 0⟩ : Edge)] : List Edge)⟩ : Graph) (some ⟨b4, 0, none⟩) 2 8 16 (memOf _) _ (Inv.start _) (hI.row 0 rfl) (hI.rowle 0 rfl) _ hy12) ?_
  rintro _ _ ⟨A13, c14, rfl, hI'⟩
  replace hI := hI.call0 hI'
  clear hI'
  refine ⟨_, rfl, ?_⟩
  refine bp 2 5 (ro (go_seq (r_in (bg 0 [.l 0 0] (gA (hI.grp 1 rfl)) ?_))))
  replace H := bind_some H
  obtain ⟨y19, hy20, H⟩ := H
  refine oe 1 rfl ?_
  refine ec (enter10 _) (ring_Plain_calls (⟨2, ([(⟨0, 1, 8, 0⟩ : Edge), (⟨1, 0, 16, 0⟩ : Edge)] : List Edge)⟩ : Graph) (some ⟨b4, 0, none⟩) 2 8 (memOf _) _ (Inv.start _) (hI.row 0 rfl) (hI.rowle 0 rfl) _ hy20) ?_
  rintro _ _ ⟨A21, c22, rfl, hI'⟩
  replace hI := hI.call0 hI'
  clear hI'
  refine ⟨_, rfl, ?_⟩
  refine bp 2 5 (ro (go_seq ?_))
  replace H := cond_some H
  rcases H with ⟨hc36, H⟩ | ⟨hc36, H⟩
  · replace H := cond_some H
    rcases H with ⟨hc37, H⟩ | ⟨hc37, H⟩
    · replace H := must_some H
      obtain ⟨g38, H⟩ := H
      obtain ⟨b39, rfl⟩ := hI.rowAt 2 rfl g38
      replace H := must_some H
      obtain ⟨g40, H⟩ := H
      replace H := cond_some H
      rcases H with ⟨hc41, H⟩ | ⟨hc41, H⟩
      · replace H := cond_some H
        rcases H with ⟨hc42, H⟩ | ⟨hc42, H⟩
        · replace H := cond_some H
          rcases H with ⟨hc43, H⟩ | ⟨hc43, H⟩
          · replace H := bind_some H
            obtain ⟨y44, hy45, H⟩ := H
            replace H := cond_some H
            rcases H with ⟨hc46, H⟩ | ⟨hc46, H⟩
            · replace H := bind_some H
              obtain ⟨y47, hy48, H⟩ := H
              refine go_held (fun w => Inv M w [.row kEdge 41 (some ⟨b4, 0, none⟩) (([(⟨0, 1, 8, 0⟩ : Edge), (⟨1, 0, 16, 0⟩ : Edge)] : List Edge).length) 2 ([(⟨0, 1, 8, 0⟩ : Edge), (⟨1, 0, 16, 0⟩ : Edge)] : List Edge), .blk b6 24 [vI 2, vS (some ⟨b4, 0, none⟩) (([(⟨0, 1, 8, 0⟩ : Edge), (⟨1, 0, 16, 0⟩ : Edge)] : List Edge).length) 2], .row kEdge 41 (some ⟨b39, 0, none⟩) y11.1.length c14 y11.1, .row kEdge 41 A21 y19.1.length c22 y19.1]) (by kernel_rfl) ?_
              replace hI := hI.drew'
              refine hx (n := 9) [(0, .p), (1, .p), (2, .c true), (3, .p), (4, .p), (5, .p), (6, .p), (7, .c true), (8, .p), (9, .x), (10, .l 0 0), (11, .p), (12, .l 1 1), (13, .x), (14, .l 2 0), (15, .x), (16, .p), (17, .c true), (18, .p), (19, .p), (20, .p), (21, .c true), (22, .p), (23, .p), (24, .p), (25, .p), (26, .c true), (27, .l 1 0), (28, .p)] (fun _ hS => (gC ((rdS.flook (hS.row 2 rfl) (hS.rowlen 2 rfl) g38).ok) (hS.grp 1 rfl) ((rdS.flook (hS.row 0 rfl) (hS.rowlen 0 rfl) g40).ok))) hI _ (bC (bndEq hc36) (bC (bndEq hc37) (bC g38 (bC g40 (bC (bndEq hc41) (bC (bndEq hc42) (bZ (bndEq hc43)))))))) ?_
              refine ho (n := 8) 29 rfl (ec (enter17 _) (ring_Fits_calls (⟨2, ([(⟨0, 1, 8, 0⟩ : Edge), (⟨1, 0, 16, 0⟩ : Edge)] : List Edge)⟩ : Graph) (some ⟨b4, 0, none⟩) 2 (some ⟨b39, 0, none⟩) c14 y11.1 8 16 2 (memOf _) _ (Inv.start _) (hI.row 0 rfl) (hI.rowle 0 rfl) (hI.row 2 rfl) (hI.rowle 2 rfl) _ hy45) ?_)
              rintro _ _ ⟨rfl, hI'⟩
              replace hI := hI.call0 hI'
              clear hI'
              refine ⟨_, rfl, ?_⟩
              refine ⟨hI, ?_⟩
              refine hx (n := 4) [(30, .p), (31, .c true), (32, .l 0 0), (33, .p)] (fun _ hS => (gA (hS.grp 1 rfl))) hI _ (bZ (bndEq hc46)) ?_
              refine ho (n := 3) 34 rfl (ec (enter17 _) (ring_Fits_calls (⟨2, ([(⟨0, 1, 8, 0⟩ : Edge), (⟨1, 0, 16, 0⟩ : Edge)] : List Edge)⟩ : Graph) (some ⟨b4, 0, none⟩) 2 (some ⟨b39, 0, none⟩) c14 y11.1 8 16 1 (memOf _) _ (Inv.start _) (hI.row 0 rfl) (hI.rowle 0 rfl) (hI.row 2 rfl) (hI.rowle 2 rfl) _ hy48) ?_)
              rintro _ _ ⟨rfl, hI'⟩
              replace hI := hI.call0 hI'
              clear hI'
              refine ⟨_, rfl, ?_⟩
              refine ⟨hI, ?_⟩
              refine hg (n := 0) [(35, .p), (36, .p), (37, .p)] (fun _ hS => gO) hI (hd ?_)
              replace H := Option.some.inj H
              subst H
              exact gr Try.func8 ⟨rfl, hI.pn⟩
            · refine go_held (fun w => Inv M w [.row kEdge 41 (some ⟨b4, 0, none⟩) (([(⟨0, 1, 8, 0⟩ : Edge), (⟨1, 0, 16, 0⟩ : Edge)] : List Edge).length) 2 ([(⟨0, 1, 8, 0⟩ : Edge), (⟨1, 0, 16, 0⟩ : Edge)] : List Edge), .blk b6 24 [vI 2, vS (some ⟨b4, 0, none⟩) (([(⟨0, 1, 8, 0⟩ : Edge), (⟨1, 0, 16, 0⟩ : Edge)] : List Edge).length) 2], .row kEdge 41 (some ⟨b39, 0, none⟩) y11.1.length c14 y11.1, .row kEdge 41 A21 y19.1.length c22 y19.1]) (by kernel_rfl) ?_
              replace hI := hI.drew'
              refine hx (n := 9) [(0, .p), (1, .p), (2, .c true), (3, .p), (4, .p), (5, .p), (6, .p), (7, .c true), (8, .p), (9, .x), (10, .l 0 0), (11, .p), (12, .l 1 1), (13, .x), (14, .l 2 0), (15, .x), (16, .p), (17, .c true), (18, .p), (19, .p), (20, .p), (21, .c true), (22, .p), (23, .p), (24, .p), (25, .p), (26, .c true), (27, .l 1 0), (28, .p)] (fun _ hS => (gC ((rdS.flook (hS.row 2 rfl) (hS.rowlen 2 rfl) g38).ok) (hS.grp 1 rfl) ((rdS.flook (hS.row 0 rfl) (hS.rowlen 0 rfl) g40).ok))) hI _ (bC (bndEq hc36) (bC (bndEq hc37) (bC g38 (bC g40 (bC (bndEq hc41) (bC (bndEq hc42) (bZ (bndEq hc43)))))))) ?_
              refine ho (n := 8) 29 rfl (ec (enter17 _) (ring_Fits_calls (⟨2, ([(⟨0, 1, 8, 0⟩ : Edge), (⟨1, 0, 16, 0⟩ : Edge)] : List Edge)⟩ : Graph) (some ⟨b4, 0, none⟩) 2 (some ⟨b39, 0, none⟩) c14 y11.1 8 16 2 (memOf _) _ (Inv.start _) (hI.row 0 rfl) (hI.rowle 0 rfl) (hI.row 2 rfl) (hI.rowle 2 rfl) _ hy45) ?_)
              rintro _ _ ⟨rfl, hI'⟩
              replace hI := hI.call0 hI'
              clear hI'
              refine ⟨_, rfl, ?_⟩
              refine ⟨hI, ?_⟩
              refine hx (n := 0) [(30, .p), (31, .c false), (32, .p), (33, .p), (34, .p), (35, .p), (36, .p), (37, .p)] (fun _ hS => gO) hI _ (bZ (bndEq hc46)) (hd ?_)
              replace H := Option.some.inj H
              subst H
              exact gr Try.func8 ⟨rfl, hI.pn⟩
          · refine dx [.p, .p, .c true, .p, .p, .p, .p, .c true, .p, .x, .l 0 0, .p, .l 1 1, .x, .l 2 0, .x, .p, .c true, .p, .p, .p, .c true, .p, .p, .p, .p, .c false, .p, .p, .p, .p, .p, .p, .p, .p, .p, .p, .p] (gC ((rdS.flook (hI.row 2 rfl) (hI.rowlen 2 rfl) g38).ok) (hI.grp 1 rfl) ((rdS.flook (hI.row 0 rfl) (hI.rowlen 0 rfl) g40).ok)) _ (bC (bndEq hc36) (bC (bndEq hc37) (bC g38 (bC g40 (bC (bndEq hc41) (bC (bndEq hc42) (bZ (bndEq hc43)))))))) hI ?_
            clear hI
            intro _ hI
            replace H := Option.some.inj H
            subst H
            exact gr Try.func8 ⟨rfl, hI.pn⟩
        · refine dx [.p, .p, .c true, .p, .p, .p, .p, .c true, .p, .x, .l 0 0, .p, .l 1 1, .x, .l 2 0, .x, .p, .c true, .p, .p, .p, .c false, .p, .p, .p, .p, .p, .p, .p, .p, .p, .p, .p, .p, .p, .p, .p, .p] (gC ((rdS.flook (hI.row 2 rfl) (hI.rowlen 2 rfl) g38).ok) (hI.grp 1 rfl) ((rdS.flook (hI.row 0 rfl) (hI.rowlen 0 rfl) g40).ok)) _ (bC (bndEq hc36) (bC (bndEq hc37) (bC g38 (bC g40 (bC (bndEq hc41) (bZ (bndEq hc42))))))) hI ?_
          clear hI
          intro _ hI
          replace H := Option.some.inj H
          subst H
          exact gr Try.func8 ⟨rfl, hI.pn⟩
      · refine dx [.p, .p, .c true, .p, .p, .p, .p, .c true, .p, .x, .l 0 0, .p, .l 1 1, .x, .l 2 0, .x, .p, .c false, .p, .p, .p, .p, .p, .p, .p, .p, .p, .p, .p, .p, .p, .p, .p, .p, .p, .p, .p, .p] (gC ((rdS.flook (hI.row 2 rfl) (hI.rowlen 2 rfl) g38).ok) (hI.grp 1 rfl) ((rdS.flook (hI.row 0 rfl) (hI.rowlen 0 rfl) g40).ok)) _ (bC (bndEq hc36) (bC (bndEq hc37) (bC g38 (bC g40 (bZ (bndEq hc41)))))) hI ?_
        clear hI
        intro _ hI
        replace H := Option.some.inj H
        subst H
        exact gr Try.func8 ⟨rfl, hI.pn⟩
    · refine dx [.p, .p, .c true, .p, .p, .p, .p, .c false, .p, .p, .p, .p, .p, .p, .p, .p, .p, .p, .p, .p, .p, .p, .p, .p, .p, .p, .p, .p, .p, .p, .p, .p, .p, .p, .p, .p, .p, .p] gO _ (bC (bndEq hc36) (bZ (bndEq hc37))) hI ?_
      clear hI
      intro _ hI
      replace H := Option.some.inj H
      subst H
      exact gr Try.func8 ⟨rfl, hI.pn⟩
  · refine dx [.p, .p, .c false, .p, .p, .p, .p, .p, .p, .p, .p, .p, .p, .p, .p, .p, .p, .p, .p, .p, .p, .p, .p, .p, .p, .p, .p, .p, .p, .p, .p, .p, .p, .p, .p, .p, .p, .p] gO _ (bZ (bndEq hc36)) hI ?_
    clear hI
    intro _ hI
    replace H := Option.some.inj H
    subst H
    exact gr Try.func8 ⟨rfl, hI.pn⟩

/-! ### assizeref06zCopy -/
theorem enter9 (a : Array Value) : Sem.pureRun Try.prog (callFunc 9 a) = some (.enter 9 a) := by kernel_rfl
theorem assizeref06zCopy_calls (a0 : Graph) (A0z0 : Option Addr) (c0z0 : Nat) (M : Mem) (w : World) (hI : Inv M w []) (hr0z0 : rdS kEdge M.blk A0z0 a0.Edges) (hl0z0 : a0.Edges.length ≤ c0z0) (r : Graph) (H : assizeref06zCopy a0 = some r) :
    Calls Try.prog 9 #[.agg #[vI a0.N, vS A0z0 a0.Edges.length c0z0]] w fun e w' => ∃ (A14 : Option Addr), ∃ (c15 : Nat), e = .returned (.agg #[vI r.N, vS A14 r.Edges.length c15]) ∧ Inv M w' [.row kEdge 41 A14 r.Edges.length c15 r.Edges] := by
  refine cg Try.func9 ?_
  intro cs
  unfold assizeref06zCopy at H
  refine go_seq (r_in (oe 0 rfl ?_))
  refine e_box 24 _ (.agg #[vI a0.N, vS A0z0 a0.Edges.length c0z0]) [vI a0.N, vS A0z0 a0.Edges.length c0z0] rfl (by kernel_rfl) rfl hI ?_
  clear hI
  intro b3 _ hI
  refine oe 1 rfl ?_
  refine e_alloc 24 (.agg #[vI 0, vS none 0 0]) [vI 0, vS none 0 0] rfl (by kernel_rfl) rfl hI ?_
  clear hI
  intro b4 _ hI
  refine ro (go_seq ?_)
  replace H := must_some H
  obtain ⟨g10, H⟩ := H
  refine go_held (fun w => Inv M w [.blk b3 24 [vI a0.N, vS A0z0 a0.Edges.length c0z0]]) (by kernel_rfl) ?_
  replace hI := hI.drew'
  refine hg (n := 4) [(0, .p), (1, .l 0 0), (3, .p), (4, .l 0 1)] (fun _ hS => (gA (hS.grp 0 rfl))) (hI.pk [0]) ?_
  refine ho (n := 3) 2 rfl (e_empty (α := Edge) kEdge 22 41 _ rfl rfl rfl hI ?_)
  clear hI
  intro b9 _ hI
  refine ⟨(hI.pk [0]), ?_⟩
  refine ho (n := 2) 5 rfl (e_append_rd (kt := kEdge) 22 0 41 _ _ _ _ (some ⟨b9, 0, none⟩) A0z0 0 0 ([] : List Edge) a0.Edges c0z0 2 [0, 1] [.blk b3 24 [vI a0.N, vS A0z0 a0.Edges.length c0z0], .blk b4 24 [vI 0, vS none 0 0]] rfl (by kernel_rfl) (by kernel_rfl) rfl rfl rfl rfl rfl (by kernel_rfl) hI (by decide) rfl (hI.rd hr0z0) g10 ?_)
  clear hI
  intro A11 c12 _ hI
  refine ⟨(hI.pk [1]), ?_⟩
  refine hg (n := 1) [(6, .p)] (fun _ hS => gO) (hI.pk [1]) ?_
  refine ho (n := 0) 7 rfl (e_store 24 _ _ 2 b4 24 [vI 0, vS none 0 0] [vI a0.N, vS A11 ((([] : List Edge) ++ a0.Edges).length) c12] 0 (.agg #[vI a0.N, vS A11 ((([] : List Edge) ++ a0.Edges).length) c12]) rfl (by kernel_rfl) (by kernel_rfl) (by kernel_rfl) (by kernel_rfl) hI rfl (by kernel_rfl) (by kernel_rfl) ?_)
  clear hI
  intro _ hI
  refine ⟨(hI.pk [1]), ?_⟩
  refine hd ?_
  replace H := Option.some.inj H
  subst H
  exact go_return_c [(b4, 0, [vI a0.N, vS A11 ((([] : List Edge) ++ a0.Edges).length) c12])] [.c 0] [.agg #[vI a0.N, vS A11 ((([] : List Edge) ++ a0.Edges).length) c12]] (.agg #[vI a0.N, vS A11 ((([] : List Edge) ++ a0.Edges).length) c12]) Try.func9 ⟨(hI.grp 2 rfl), trivial⟩ (by kernel_rfl) (by kernel_rfl) (by kernel_rfl) (by kernel_rfl) ⟨A11, c12, rfl, hI.pick [0] (by decide) rfl⟩

/-! ### assizeref06zCheck -/
theorem enter26 (a : Array Value) : Sem.pureRun Try.prog (callFunc 26 a) = some (.enter 26 a) := by kernel_rfl
theorem assizeref06zCheck_calls (a0 : Graph) (A0z0 : Option Addr) (c0z0 : Nat) (M : Mem) (w : World) (hI : Inv M w []) (hr0z0 : rdS kEdge M.blk A0z0 a0.Edges) (hl0z0 : a0.Edges.length ≤ c0z0) (r : Int) (H : assizeref06zCheck a0 = some r) :
    Calls Try.prog 26 #[.agg #[vI a0.N, vS A0z0 a0.Edges.length c0z0]] w fun e w' => e = .returned (vI r) ∧ Inv M w' [] := by
  refine cg Try.func26 ?_
  intro cs
  unfold assizeref06zCheck at H
  refine go_seq (r_in (oe 0 rfl ?_))
  refine e_box 24 _ (.agg #[vI a0.N, vS A0z0 a0.Edges.length c0z0]) [vI a0.N, vS A0z0 a0.Edges.length c0z0] rfl (by kernel_rfl) rfl hI ?_
  clear hI
  intro b2 _ hI
  refine bp 1 1 (ro (go_seq ?_))
  refine go_seq_join (o := r) (fun b9 f w => ∃ (j : Nat → Value), f = updL j [(1, vP b2 0), (18, vB b9)] ∧ Inv M w [.blk b2 24 [vI a0.N, vS A0z0 a0.Edges.length c0z0]]) (fun b9 => assizeref06zCheck.j1 a0 b9) ?_ (fun hJ10 => ?_)
  · clear H hI
    rintro b9 _ _ ⟨_, rfl, hI⟩ H
    replace H := cond_some H
    rcases H with ⟨hc11, H⟩ | ⟨hc11, H⟩
    · refine gt hc11 (go_seq (rp 1 ?_))
      replace H := Option.some.inj H
      subst H
      exact gr Try.func26 ⟨rfl, hI.pn⟩
    · refine ge hc11 (go_skip (go_seq (go_seq (rp 1 (go_block ?_)))))
      refine go_iter (assizeref06zCheck.s2 a0) (fun x133 f w => ∃ (j : Nat → Value), f = updL j [(1, vP b2 0), (3, vI x133)] ∧ Inv M w [.blk b2 24 [vI a0.N, vS A0z0 a0.Edges.length c0z0]]) H ⟨_, at_, hI⟩ ?_
      clear H hI
      rintro x133 _ _ o1 H ⟨_, rfl, hI⟩ hin1 hout1
      refine go_seq (go_seq (rg [.p, .p, .l 0 1, .p, .p] (gA (hI.grp 0 rfl)) ?_))
      replace H := cond_some H
      rcases H with ⟨hc135, H⟩ | ⟨hc135, H⟩
      · refine gt hc135 (go_skip (go_seq (go_block (go_seq (r_in ?_)))))
        replace H := must_some H
        obtain ⟨g164, H⟩ := H
        obtain ⟨b165, q166, rfl, _⟩ := rdS.fopen hr0z0 rfl g164
        refine bx 0 [.p, .l 0 1, .p, .x, .l 1 0] (gB (hI.grp 0 rfl) (hI.lies (rdS.flook hr0z0 rfl g164))) _ (bZ g164) (oe 5 rfl ?_)
        refine e_alloc 41 (.agg #[vI 0, vI 0, vI 0, vI 0]) [vI 0, vI 0, vI 0, vI 0] rfl (by kernel_rfl) rfl hI ?_
        clear hI
        intro b167 _ hI
        refine oe 6 rfl ?_
        refine e_store 41 _ _ 1 b167 41 [vI 0, vI 0, vI 0, vI 0] [vI ((idx a0.Edges x133).From), vI ((idx a0.Edges x133).To), vI ((idx a0.Edges x133).Kind), vI ((idx a0.Edges x133).Key)] 0 (.agg #[vI ((idx a0.Edges x133).From), vI ((idx a0.Edges x133).To), vI ((idx a0.Edges x133).Kind), vI ((idx a0.Edges x133).Key)]) rfl (by kernel_rfl) (by kernel_rfl) (by kernel_rfl) (by kernel_rfl) hI rfl (by kernel_rfl) (by kernel_rfl) ?_
        clear hI
        intro _ hI
        refine ro ?_
        refine go_seq_join (o := o1) (fun b174 f w => ∃ (j : Nat → Value), f = updL j [(1, vP b2 0), (3, vI x133), (71, vB b174)] ∧ Inv M w [.blk b2 24 [vI a0.N, vS (some ⟨b165, q166, none⟩) a0.Edges.length c0z0]]) (fun b174 => assizeref06zCheck.j3 x133 b174) ?_ (fun hJ175 => ?_)
        · clear H hI
          rintro b174 _ _ ⟨_, rfl, hI⟩ H
          replace H := cond_some H
          rcases H with ⟨hc176, H⟩ | ⟨hc176, H⟩
          · refine gt hc176 (go_seq (rp 1 ?_))
            replace H := out_some H
            obtain ⟨_, H, he1⟩ := H
            have he := (hout1 _ he1).symm
            subst he
            replace H := Option.some.inj H
            subst H
            exact gr Try.func26 ⟨rfl, hI.pn⟩
          · refine ge hc176 (go_skip (go_inBlock (rp 3 ?_)))
            exact hin1 _ (Option.some.inj H).symm _ _ ⟨_, at_, hI⟩
        · refine r_in ?_
          replace H := cond_some H
          rcases H with ⟨hc177, H⟩ | ⟨hc177, H⟩
          · refine bx 0 [.p, .l 0 0, .p, .c true, .p, .p, .p, .p, .p, .p, .p, .p, .p, .p, .p, .p, .p, .p, .p, .p, .p, .p, .p, .p, .p, .p, .p, .p, .p, .p, .p, .p, .p, .p, .p, .p, .p, .p, .p, .p, .p] (gA (hI.grp 1 rfl)) _ (bZ (bndEq hc177)) (ro ?_)
            exact hJ175 true _ _ ⟨_, at_, hI.pick [0] (by decide) rfl⟩ H
          · replace H := cond_some H
            rcases H with ⟨hc178, H⟩ | ⟨hc178, H⟩
            · refine bx 0 [.p, .l 0 0, .p, .c false, .p, .l 0 0, .p, .l 1 0, .p, .p, .c true, .p, .p, .p, .p, .p, .p, .p, .p, .p, .p, .p, .p, .p, .p, .p, .p, .p, .p, .p, .p, .p, .p, .p, .p, .p, .p, .p, .p, .p, .p] (gB (hI.grp 1 rfl) (hI.grp 0 rfl)) _ (bC (bndEq hc177) (bZ (bndEq hc178))) (ro ?_)
              exact hJ175 true _ _ ⟨_, at_, hI.pick [0] (by decide) rfl⟩ H
            · replace H := cond_some H
              rcases H with ⟨hc179, H⟩ | ⟨hc179, H⟩
              · refine bx 0 [.p, .l 0 0, .p, .c false, .p, .l 0 0, .p, .l 1 0, .p, .p, .c false, .p, .l 0 1, .p, .p, .c true, .p, .p, .p, .p, .p, .p, .p, .p, .p, .p, .p, .p, .p, .p, .p, .p, .p, .p, .p, .p, .p, .p, .p, .p, .p] (gB (hI.grp 1 rfl) (hI.grp 0 rfl)) _ (bC (bndEq hc177) (bC (bndEq hc178) (bZ (bndEq hc179)))) (ro ?_)
                exact hJ175 true _ _ ⟨_, at_, hI.pick [0] (by decide) rfl⟩ H
              · replace H := cond_some H
                rcases H with ⟨hc180, H⟩ | ⟨hc180, H⟩
                · refine bx 0 [.p, .l 0 0, .p, .c false, .p, .l 0 0, .p, .l 1 0, .p, .p, .c false, .p, .l 0 1, .p, .p, .c false, .p, .l 0 1, .p, .l 1 0, .p, .p, .c true, .p, .p, .p, .p, .p, .p, .p, .p, .p, .p, .p, .p, .p, .p, .p, .p, .p, .p] (gB (hI.grp 1 rfl) (hI.grp 0 rfl)) _ (bC (bndEq hc177) (bC (bndEq hc178) (bC (bndEq hc179) (bZ (bndEq hc180))))) (ro ?_)
                  exact hJ175 true _ _ ⟨_, at_, hI.pick [0] (by decide) rfl⟩ H
                · replace H := cond_some H
                  rcases H with ⟨hc181, H⟩ | ⟨hc181, H⟩
                  · refine bx 0 [.p, .l 0 0, .p, .c false, .p, .l 0 0, .p, .l 1 0, .p, .p, .c false, .p, .l 0 1, .p, .p, .c false, .p, .l 0 1, .p, .l 1 0, .p, .p, .c false, .p, .l 0 2, .p, .p, .c true, .p, .p, .p, .p, .p, .p, .p, .p, .p, .p, .p, .p, .p] (gB (hI.grp 1 rfl) (hI.grp 0 rfl)) _ (bC (bndEq hc177) (bC (bndEq hc178) (bC (bndEq hc179) (bC (bndEq hc180) (bZ (bndEq hc181)))))) (ro ?_)
                    exact hJ175 true _ _ ⟨_, at_, hI.pick [0] (by decide) rfl⟩ H
                  · replace H := cond_some H
                    rcases H with ⟨hc182, H⟩ | ⟨hc182, H⟩
                    · refine bx 0 [.p, .l 0 0, .p, .c false, .p, .l 0 0, .p, .l 1 0, .p, .p, .c false, .p, .l 0 1, .p, .p, .c false, .p, .l 0 1, .p, .l 1 0, .p, .p, .c false, .p, .l 0 2, .p, .p, .c false, .p, .l 0 2, .p, .p, .c true, .p, .p, .p, .p, .p, .p, .p, .p] (gB (hI.grp 1 rfl) (hI.grp 0 rfl)) _ (bC (bndEq hc177) (bC (bndEq hc178) (bC (bndEq hc179) (bC (bndEq hc180) (bC (bndEq hc181) (bZ (bndEq hc182))))))) ?_
                      refine ro ?_
                      exact hJ175 true _ _ ⟨_, at_, hI.pick [0] (by decide) rfl⟩ H
                    · refine bx 0 [.p, .l 0 0, .p, .c false, .p, .l 0 0, .p, .l 1 0, .p, .p, .c false, .p, .l 0 1, .p, .p, .c false, .p, .l 0 1, .p, .l 1 0, .p, .p, .c false, .p, .l 0 2, .p, .p, .c false, .p, .l 0 2, .p, .p, .c false, .p, .l 0 2, .p, .l 0 2, .p, .p, .p, .p] (gB (hI.grp 1 rfl) (hI.grp 0 rfl)) _ (bC (bndEq hc177) (bC (bndEq hc178) (bC (bndEq hc179) (bC (bndEq hc180) (bC (bndEq hc181) (bZ (bndEq hc182))))))) ?_
                      refine ro ?_
                      exact hJ175 (bAnd .i64 ((idx a0.Edges x133).Kind) (w64 (((idx a0.Edges x133).Kind) - 1)) != 0) _ _ ⟨_, at_, hI.pick [0] (by decide) rfl⟩ H
      · refine ge hc135 ?_
        refine go_exit rfl ?_
        refine go_seq (rp 1 ?_)
        replace H := out_some H
        obtain ⟨_, H, he1⟩ := H
        have he := (hout1 _ he1).symm
        subst he
        replace H := Option.some.inj H
        subst H
        exact gr Try.func26 ⟨rfl, hI.pn⟩
  · refine r_in ?_
    replace H := cond_some H
    rcases H with ⟨hc183, H⟩ | ⟨hc183, H⟩
    · refine bx 0 [.p, .l 0 0, .p, .c true, .p, .p, .p, .p, .p, .p, .p, .p, .p, .p] (gA (hI.grp 0 rfl)) _ (bZ (bndEq hc183)) (ro ?_)
      exact hJ10 true _ _ ⟨_, at_, hI⟩ H
    · replace H := cond_some H
      rcases H with ⟨hc184, H⟩ | ⟨hc184, H⟩
      · refine bx 0 [.p, .l 0 0, .p, .c false, .p, .l 0 0, .p, .p, .c true, .p, .p, .p, .p, .p] (gA (hI.grp 0 rfl)) _ (bC (bndEq hc183) (bZ (bndEq hc184))) (ro ?_)
        exact hJ10 true _ _ ⟨_, at_, hI⟩ H
      · refine bx 0 [.p, .l 0 0, .p, .c false, .p, .l 0 0, .p, .p, .c false, .p, .l 0 1, .p, .p, .p] (gA (hI.grp 0 rfl)) _ (bC (bndEq hc183) (bZ (bndEq hc184))) (ro ?_)
        exact hJ10 (decide ((a0.Edges.length : Int) > 262144)) _ _ ⟨_, at_, hI⟩ H

/-! ### assizeref06zSteps -/
theorem enter27 (a : Array Value) : Sem.pureRun Try.prog (callFunc 27 a) = some (.enter 27 a) := by kernel_rfl
theorem assizeref06zSteps_calls (a0 : Graph) (A0z0 : Option Addr) (c0z0 : Nat) (a1 : Int) (M : Mem) (w : World) (hI : Inv M w []) (hr0z0 : rdS kEdge M.blk A0z0 a0.Edges) (hl0z0 : a0.Edges.length ≤ c0z0) (r : (List (List Bool))) (H : assizeref06zSteps a0 a1 = some r) :
    Calls Try.prog 27 #[.agg #[vI a0.N, vS A0z0 a0.Edges.length c0z0], vI a1] w fun e w' => ∃ (A500 : Option Addr), ∃ (c501 : Nat), e = .returned (vS A500 r.length c501) ∧ Inv M w' [.row (tSlice 4 tBool) 61 A500 r.length c501 r] := by
  refine cg Try.func27 ?_
  intro cs
  unfold assizeref06zSteps at H
  refine go_seq (r_in (oe 0 rfl ?_))
  refine e_box 24 _ (.agg #[vI a0.N, vS A0z0 a0.Edges.length c0z0]) [vI a0.N, vS A0z0 a0.Edges.length c0z0] rfl (by kernel_rfl) rfl hI ?_
  clear hI
  intro b2 _ hI
  refine bp 1 1 (ro (go_seq (r_in (bg 0 [.p, .l 0 0] (gA (hI.grp 0 rfl)) ?_))))
  replace H := must_some H
  obtain ⟨g5, H⟩ := H
  refine oe 2 rfl ?_
  refine e_make (tSlice 4 tBool) (default : List Bool) 57 61 _ _ _ (vS none 0 0) a0.N rfl rfl rfl rfl rfl rfl (fun _ => ⟨none, 0, rfl, rowOwn.nil⟩) (by kernel_rfl) (by kernel_rfl) g5 hI ?_
  clear hI
  intro b6 _ hI
  refine bp 3 1 (ro (go_seq (go_seq (rp 1 (go_block ?_)))))
  refine go_is 5 (vS (some ⟨b6, 0, none⟩) a0.N.toNat a0.N.toNat) (vS (some ⟨b6, 0, none⟩) ((List.replicate a0.N.toNat (default : List Bool)).length) a0.N.toNat) (by kernel_rfl) (by first | rfl | simp only [List.length_set, List.length_replicate, List.length_nil]) ?_
  replace hI := hI.renum 1 rfl
  refine go_iter (assizeref06zSteps.s1 a0 a1) (fun (l168, x171) f w => ∃ (j : Nat → Value) (A169 : Option Addr) (c170 : Nat), f = updL j [(1, vI a1), (2, vP b2 0), (5, vS A169 l168.length c170), (6, vI x171)] ∧ Inv M w [.blk b2 24 [vI a0.N, vS A0z0 a0.Edges.length c0z0], .row (tSlice 4 tBool) 61 A169 l168.length c170 l168]) H ⟨_, (some ⟨b6, 0, none⟩), a0.N.toNat, at_, hI⟩ ?_
  clear H hI
  rintro ⟨l168, x171⟩ _ _ o1 H ⟨_, A169, c170, rfl, hI⟩ hin1 hout1
  refine go_seq (go_seq (rg [.p, .p, .l 0 0, .p] (gA (hI.grp 0 rfl)) ?_))
  replace H := cond_some H
  rcases H with ⟨hc173, H⟩ | ⟨hc173, H⟩
  · refine gt hc173 (go_skip (go_seq (go_block (r_in (bg 0 [.p, .p, .p, .l 0 0] (gA (hI.grp 0 rfl)) ?_)))))
    replace H := must_some H
    obtain ⟨g196, H⟩ := H
    refine oe 4 rfl ?_
    refine e_make tBool (default : Bool) 61 4 _ _ _ (vB false) a0.N rfl rfl rfl rfl rfl rfl (fun _ => rfl) (by kernel_rfl) (by kernel_rfl) g196 hI ?_
    clear hI
    intro b197 _ hI
    replace H := must_some H
    obtain ⟨g198, H⟩ := H
    obtain ⟨b199, rfl⟩ := hI.rowAt 1 rfl g198
    obtain ⟨cs202, hk201, hg200⟩ := rdS.look (hI.row 1 rfl) (hI.rowlen 1 rfl) g198
    obtain ⟨A203, c204, rfl, hl206, hr205⟩ := hk201
    refine bx 5 [.x] gO _ (bZ g198) (oe 6 rfl ?_)
    refine e_putown 61 _ _ 1 [2] [0] b199 61 l168.length c170 l168 (List.replicate a0.N.toNat (default : Bool)) x171 (vS (some ⟨b197, 0, none⟩) a0.N.toNat a0.N.toNat) [.row tBool 4 (some ⟨b197, 0, none⟩) a0.N.toNat a0.N.toNat (List.replicate a0.N.toNat (default : Bool))] [.blk b2 24 [vI a0.N, vS A0z0 a0.Edges.length c0z0]] rfl (by kernel_rfl) (by kernel_rfl) (by kernel_rfl) (by kernel_rfl) hI (by decide) rfl g198 mk_row ?_
    clear hI
    intro _ hI
    refine ro (go_inBlock (rp 3 ?_))
    refine go_is 5 (vS (some ⟨b199, 0, none⟩) l168.length c170) (vS (some ⟨b199, 0, none⟩) ((l168.set x171.toNat (List.replicate a0.N.toNat (default : Bool))).length) c170) (by kernel_rfl) (by first | rfl | simp only [List.length_set, List.length_replicate, List.length_nil]) ?_
    replace hI := hI.renum 0 rfl
    exact hin1 _ (Option.some.inj H).symm _ _ ⟨_, (some ⟨b199, 0, none⟩), c170, at_, hI.pick [1, 0] (by decide) rfl⟩
  · refine ge hc173 ?_
    refine go_exit rfl ?_
    refine go_seq (go_seq (rp 1 (go_block ?_)))
    refine go_iter (assizeref06zSteps.s2 a0 a1) (fun (l435, x438) f w => ∃ (j : Nat → Value) (A436 : Option Addr) (c437 : Nat), f = updL j [(1, vI a1), (2, vP b2 0), (5, vS A436 l435.length c437), (7, vI x438)] ∧ Inv M w [.blk b2 24 [vI a0.N, vS A0z0 a0.Edges.length c0z0], .row (tSlice 4 tBool) 61 A436 l435.length c437 l435]) H ⟨_, A169, c170, at_, hI⟩ ?_
    clear H hI
    rintro ⟨l435, x438⟩ _ _ o2 H ⟨_, A436, c437, rfl, hI⟩ hin2 hout2
    refine go_seq (go_seq (rg [.p, .p, .l 0 1, .p, .p] (gA (hI.grp 0 rfl)) ?_))
    replace H := cond_some H
    rcases H with ⟨hc440, H⟩ | ⟨hc440, H⟩
    · refine gt hc440 (go_skip (go_seq ?_))
      refine go_block_join (o := o2) (fun l476 f w => ∃ (j : Nat → Value) (A477 : Option Addr) (c478 : Nat), f = updL j [(1, vI a1), (2, vP b2 0), (5, vS A477 l476.length c478), (7, vI x438)] ∧ Inv M w [.blk b2 24 [vI a0.N, vS A0z0 a0.Edges.length c0z0], .row (tSlice 4 tBool) 61 A477 l476.length c478 l476]) (fun l476 => assizeref06zSteps.j3 x438 l476) ?_ (fun hJ479 => ?_)
      · clear H hI
        rintro l476 _ _ ⟨_, A477, c478, rfl, hI⟩ H
        refine rp 3 ?_
        exact hin2 _ (Option.some.inj H).symm _ _ ⟨_, A477, c478, at_, hI⟩
      · refine go_seq (r_in ?_)
        replace H := must_some H
        obtain ⟨g483, H⟩ := H
        obtain ⟨b484, q485, rfl, _⟩ := rdS.fopen hr0z0 rfl g483
        refine bx 0 [.p, .l 0 1, .p, .x, .p, .l 1 2, .p, .p, .p] (gB (hI.grp 0 rfl) (hI.lies (rdS.flook hr0z0 rfl g483))) _ (bZ g483) (ro ?_)
        replace H := cond_some H
        rcases H with ⟨hc486, H⟩ | ⟨hc486, H⟩
        · refine gt hc486 ?_
          replace H := must_some H
          obtain ⟨g487, H⟩ := H
          obtain ⟨b488, rfl⟩ := hI.rowAt 1 rfl g487
          obtain ⟨cs491, hk490, hg489⟩ := rdS.look (hI.row 1 rfl) (hI.rowlen 1 rfl) g487
          obtain ⟨A492, c493, rfl, hl495, hr494⟩ := hk490
          replace H := must_some H
          obtain ⟨g496, H⟩ := H
          obtain ⟨b497, q498, rfl, _⟩ := rdS.fopen hr494 rfl g496
          refine d_tail' 16 _ [(b2, 0, [vI a0.N, vS (some ⟨b484, q485, none⟩) a0.Edges.length c0z0]), (b484, q485 + x438.toNat * 4, [vI ((idx a0.Edges x438).From), vI ((idx a0.Edges x438).To), vI ((idx a0.Edges x438).Kind), vI ((idx a0.Edges x438).Key)]), (b488, 0 + ((idx a0.Edges x438).From).toNat * 1, [vS (some ⟨b497, q498, none⟩) ((idx l435 ((idx a0.Edges x438).From)).length) c493])] [.p, .p, .l 0 1, .p, .x, .p, .l 1 0, .x, .l 2 0, .p, .l 0 1, .p, .x, .p, .l 1 1, .x] [(39, vS (some ⟨b488, 0, none⟩) l435.length c437), (40, vP b2 1), (41, vS (some ⟨b484, q485, none⟩) a0.Edges.length c0z0), (42, vI x438), (43, .pointer (some ⟨b484, q485 + x438.toNat * 4, none⟩)), (44, .pointer (some ⟨b484, q485 + x438.toNat * 4, none⟩)), (45, vI ((idx a0.Edges x438).From)), (46, .pointer (some ⟨b488, 0 + ((idx a0.Edges x438).From).toNat * 1, none⟩)), (47, vS (some ⟨b497, q498, none⟩) ((idx l435 ((idx a0.Edges x438).From)).length) c493), (48, vP b2 1), (49, vS (some ⟨b484, q485, none⟩) a0.Edges.length c0z0), (50, vI x438), (51, .pointer (some ⟨b484, q485 + x438.toNat * 4, none⟩)), (52, .pointer (some ⟨b484, q485 + x438.toNat * 4 + 1, none⟩)), (53, vI ((idx a0.Edges x438).To)), (54, .pointer (some ⟨b497, q498 + ((idx a0.Edges x438).To).toNat * 1, none⟩))] [(x438, a0.Edges.length), ((idx a0.Edges x438).From, l435.length), (x438, a0.Edges.length), ((idx a0.Edges x438).To, (idx l435 ((idx a0.Edges x438).From)).length)] (by kernel_rfl) (by kernel_rfl) rfl rfl ⟨(hI.grp 0 rfl), (hI.lies (rdS.flook hr0z0 rfl g483)), hg489.ok, trivial⟩ ⟨g483, g487, g483, g496, trivial⟩ (by kernel_rfl) (by kernel_rfl) (by kernel_rfl) (by kernel_rfl) hI ?_
          clear hI
          intro _ hI hsame
          refine e_put2 4 _ _ 1 b488 61 4 l435.length c437 l435 ((idx a0.Edges x438).From) b497 q498 ((idx l435 ((idx a0.Edges x438).From)).length) c493 true ((idx a0.Edges x438).To) 0 (vB true) rfl (by kernel_rfl) (by kernel_rfl) (by kernel_rfl) (by kernel_rfl) hI rfl g487 (Grp.ok_same (Lies.ok hg489) hsame) (by simpa only [List.length_set, List.length_replicate] using g496) (by kernel_rfl) (by kernel_rfl) ?_
          clear hI
          intro _ hI
          refine go_inBlock ?_
          refine go_is 5 (vS (some ⟨b488, 0, none⟩) l435.length c437) (vS (some ⟨b488, 0, none⟩) ((l435.set ((idx a0.Edges x438).From).toNat ((idx l435 ((idx a0.Edges x438).From)).set ((idx a0.Edges x438).To).toNat true)).length) c437) (by kernel_rfl) (by first | rfl | simp only [List.length_set, List.length_replicate, List.length_nil]) ?_
          replace hI := hI.renum 1 rfl
          exact hJ479 (l435.set ((idx a0.Edges x438).From).toNat ((idx l435 ((idx a0.Edges x438).From)).set ((idx a0.Edges x438).To).toNat true)) _ _ ⟨_, (some ⟨b488, 0, none⟩), c437, at_, hI⟩ H
        · refine ge hc486 (go_skip (go_inBlock ?_))
          exact hJ479 l435 _ _ ⟨_, A436, c437, at_, hI⟩ H
    · refine ge hc440 ?_
      refine go_exit rfl ?_
      refine go_seq (rp 2 ?_)
      replace H := out_some H
      obtain ⟨_, H, he2⟩ := H
      have he := (hout2 _ he2).symm
      subst he
      replace H := out_some H
      obtain ⟨_, H, he1⟩ := H
      have he := (hout1 _ he1).symm
      subst he
      replace H := Option.some.inj H
      subst H
      exact gr Try.func27 ⟨A436, c437, rfl, hI.pick [1] (by decide) rfl⟩

/-! ### assizeref07zfirst -/
theorem enter29 (a : Array Value) : Sem.pureRun Try.prog (callFunc 29 a) = some (.enter 29 a) := by kernel_rfl
theorem assizeref07zfirst_calls (a0 : Graph) (A0z0 : Option Addr) (c0z0 : Nat) (a1 : Int) (a2 : Int) (a3 : Int) (M : Mem) (w : World) (hI : Inv M w []) (hr0z0 : rdS kEdge M.blk A0z0 a0.Edges) (hl0z0 : a0.Edges.length ≤ c0z0) (r : Edge) (H : assizeref07zfirst a0 a1 a2 a3 = some r) :
    Calls Try.prog 29 #[.agg #[vI a0.N, vS A0z0 a0.Edges.length c0z0], vI a1, vI a2, vI a3] w fun e w' => e = .returned (.agg #[vI r.From, vI r.To, vI r.Kind, vI r.Key]) ∧ Inv M w' [] := by
  refine cg Try.func29 ?_
  intro cs
  unfold assizeref07zfirst at H
  refine go_seq (r_in (oe 0 rfl ?_))
  refine e_box 24 _ (.agg #[vI a0.N, vS A0z0 a0.Edges.length c0z0]) [vI a0.N, vS A0z0 a0.Edges.length c0z0] rfl (by kernel_rfl) rfl hI ?_
  clear hI
  intro b3 _ hI
  refine oe 1 rfl ?_
  refine e_alloc 41 (.agg #[vI 0, vI 0, vI 0, vI 0]) [vI 0, vI 0, vI 0, vI 0] rfl (by kernel_rfl) rfl hI ?_
  clear hI
  intro b4 _ hI
  refine ro (go_seq (go_seq (rp 1 (go_block ?_))))
  refine go_iter (assizeref07zfirst.s1 a0 a1 a2 a3) (fun x94 f w => ∃ (j : Nat → Value), f = updL j [(1, vI a1), (2, vI a2), (3, vI a3), (4, vP b3 0), (8, vP b4 0), (9, vI x94)] ∧ Inv M w [.blk b3 24 [vI a0.N, vS A0z0 a0.Edges.length c0z0], .blk b4 41 [vI 0, vI 0, vI 0, vI 0]]) H ⟨_, at_, hI⟩ ?_
  clear H hI
  rintro x94 _ _ o1 H ⟨_, rfl, hI⟩ hin1 hout1
  refine go_seq (go_seq (rg [.p, .p, .l 0 1, .p, .p] (gA (hI.grp 0 rfl)) ?_))
  replace H := cond_some H
  rcases H with ⟨hc96, H⟩ | ⟨hc96, H⟩
  · refine gt hc96 (go_skip (go_seq (go_block (go_seq (r_in ?_)))))
    replace H := must_some H
    obtain ⟨g117, H⟩ := H
    obtain ⟨b118, q119, rfl, _⟩ := rdS.fopen hr0z0 rfl g117
    refine bx 0 [.p, .l 0 1, .p, .x, .l 1 0] (gB (hI.grp 0 rfl) (hI.lies (rdS.flook hr0z0 rfl g117))) _ (bZ g117) (oe 5 rfl ?_)
    refine e_alloc 41 (.agg #[vI 0, vI 0, vI 0, vI 0]) [vI 0, vI 0, vI 0, vI 0] rfl (by kernel_rfl) rfl hI ?_
    clear hI
    intro b120 _ hI
    refine oe 6 rfl ?_
    refine e_store 41 _ _ 2 b120 41 [vI 0, vI 0, vI 0, vI 0] [vI ((idx a0.Edges x94).From), vI ((idx a0.Edges x94).To), vI ((idx a0.Edges x94).Kind), vI ((idx a0.Edges x94).Key)] 0 (.agg #[vI ((idx a0.Edges x94).From), vI ((idx a0.Edges x94).To), vI ((idx a0.Edges x94).Kind), vI ((idx a0.Edges x94).Key)]) rfl (by kernel_rfl) (by kernel_rfl) (by kernel_rfl) (by kernel_rfl) hI rfl (by kernel_rfl) (by kernel_rfl) ?_
    clear hI
    intro _ hI
    refine ro ?_
    refine go_seq_join (o := o1) (fun b123 f w => ∃ (j : Nat → Value), f = updL j [(1, vI a1), (2, vI a2), (3, vI a3), (4, vP b3 0), (8, vP b4 0), (9, vI x94), (10, vP b120 0), (39, vB b123)] ∧ Inv M w [.blk b3 24 [vI a0.N, vS (some ⟨b118, q119, none⟩) a0.Edges.length c0z0], .blk b4 41 [vI 0, vI 0, vI 0, vI 0], .blk b120 41 [vI ((idx a0.Edges x94).From), vI ((idx a0.Edges x94).To), vI ((idx a0.Edges x94).Kind), vI ((idx a0.Edges x94).Key)]]) (fun b123 => assizeref07zfirst.j2 a0 x94 b123) ?_ (fun hJ124 => ?_)
    · clear H hI
      rintro b123 _ _ ⟨_, rfl, hI⟩ H
      replace H := cond_some H
      rcases H with ⟨hc125, H⟩ | ⟨hc125, H⟩
      · refine gt hc125 (go_seq (r_in (bg 0 [.l 0 0] (gA (hI.grp 2 rfl)) (oe 1 rfl ?_))))
        refine e_store 41 _ _ 1 b4 41 [vI 0, vI 0, vI 0, vI 0] [vI ((idx a0.Edges x94).From), vI ((idx a0.Edges x94).To), vI ((idx a0.Edges x94).Kind), vI ((idx a0.Edges x94).Key)] 0 (.agg #[vI ((idx a0.Edges x94).From), vI ((idx a0.Edges x94).To), vI ((idx a0.Edges x94).Kind), vI ((idx a0.Edges x94).Key)]) rfl (by kernel_rfl) (by kernel_rfl) (by kernel_rfl) (by kernel_rfl) hI rfl (by kernel_rfl) (by kernel_rfl) ?_
        clear hI
        intro _ hI
        refine ro ?_
        replace H := out_some H
        obtain ⟨_, H, he1⟩ := H
        have he := (hout1 _ he1).symm
        subst he
        replace H := Option.some.inj H
        subst H
        exact go_return_c [(b4, 0, [vI ((idx a0.Edges x94).From), vI ((idx a0.Edges x94).To), vI ((idx a0.Edges x94).Kind), vI ((idx a0.Edges x94).Key)])] [.c 0] [.agg #[vI ((idx a0.Edges x94).From), vI ((idx a0.Edges x94).To), vI ((idx a0.Edges x94).Kind), vI ((idx a0.Edges x94).Key)]] (.agg #[vI ((idx a0.Edges x94).From), vI ((idx a0.Edges x94).To), vI ((idx a0.Edges x94).Kind), vI ((idx a0.Edges x94).Key)]) Try.func29 ⟨(hI.grp 1 rfl), trivial⟩ (by kernel_rfl) (by kernel_rfl) (by kernel_rfl) (by kernel_rfl) ⟨rfl, hI.pn⟩
      · refine ge hc125 (go_skip (go_inBlock (rp 3 ?_)))
        exact hin1 _ (Option.some.inj H).symm _ _ ⟨_, at_, hI.pick [0, 1] (by decide) rfl⟩
    · refine r_in ?_
      replace H := cond_some H
      rcases H with ⟨hc126, H⟩ | ⟨hc126, H⟩
      · replace H := cond_some H
        rcases H with ⟨hc127, H⟩ | ⟨hc127, H⟩
        · refine bx 0 [.p, .l 0 0, .p, .p, .c true, .p, .l 0 1, .p, .p, .p, .c true, .p, .l 0 2, .p, .p, .p, .p] (gA (hI.grp 2 rfl)) _ (bC (bndEq hc126) (bZ (bndEq hc127))) (ro ?_)
          exact hJ124 (bAnd .i64 ((idx a0.Edges x94).Kind) a1 != 0) _ _ ⟨_, at_, hI⟩ H
        · refine bx 0 [.p, .l 0 0, .p, .p, .c true, .p, .l 0 1, .p, .p, .p, .c false, .p, .p, .p, .p, .p, .p] (gA (hI.grp 2 rfl)) _ (bC (bndEq hc126) (bZ (bndEq hc127))) (ro ?_)
          exact hJ124 false _ _ ⟨_, at_, hI⟩ H
      · refine bx 0 [.p, .l 0 0, .p, .p, .c false, .p, .p, .p, .p, .p, .p, .p, .p, .p, .p, .p, .p] (gA (hI.grp 2 rfl)) _ (bZ (bndEq hc126)) (ro ?_)
        exact hJ124 false _ _ ⟨_, at_, hI⟩ H
  · refine ge hc96 ?_
    refine go_exit rfl ?_
    refine go_seq (r_in (bp 0 1 (oe 1 rfl ?_)))
    refine e_store 41 _ _ 1 b4 41 [vI 0, vI 0, vI 0, vI 0] [vI 0, vI 0, vI 0, vI 0] 0 (.agg #[vI 0, vI 0, vI 0, vI 0]) rfl (by kernel_rfl) (by kernel_rfl) (by kernel_rfl) (by kernel_rfl) hI rfl (by kernel_rfl) (by kernel_rfl) ?_
    clear hI
    intro _ hI
    refine ro ?_
    replace H := out_some H
    obtain ⟨_, H, he1⟩ := H
    have he := (hout1 _ he1).symm
    subst he
    replace H := Option.some.inj H
    subst H
    exact go_return_c [(b4, 0, [vI 0, vI 0, vI 0, vI 0])] [.c 0] [.agg #[vI 0, vI 0, vI 0, vI 0]] (.agg #[vI 0, vI 0, vI 0, vI 0]) Try.func29 ⟨(hI.grp 1 rfl), trivial⟩ (by kernel_rfl) (by kernel_rfl) (by kernel_rfl) (by kernel_rfl) ⟨rfl, hI.pn⟩

/-! ### assizeref07ztable_step -/
theorem enter38 (a : Array Value) : Sem.pureRun Try.prog (callFunc 38 a) = some (.enter 38 a) := by kernel_rfl
theorem assizeref07ztable_step_calls (b0z : Nat) (a0 : Assizeref07Table) (A0z0 : Option Addr) (c0z0 : Nat) (A0z1 : Option Addr) (c0z1 : Nat) (a1 : Int) (a2 : Int) (M : Mem) (w : World) (hI : Inv M w []) (hb0z : Lies M.blk (b0z, 0, [vI a0.n, vS A0z0 a0.d.length c0z0, vS A0z1 a0.r.length c0z1])) (hr0z0 : rdS (tSlice 4 tBool) M.blk A0z0 a0.d) (hl0z0 : a0.d.length ≤ c0z0) (hr0z1 : rdS (tSlice 4 tBool) M.blk A0z1 a0.r) (hl0z1 : a0.r.length ≤ c0z1) (r : Bool × Bool) (H : assizeref07ztable_step a0 a1 a2 = some r) :
    Calls Try.prog 38 #[vP b0z 0, vI a1, vI a2] w fun e w' => e = .returned (.tuple #[vB r.1, vB r.2]) ∧ Inv M w' [] := by
  refine cg Try.func38 ?_
  intro cs
  unfold assizeref07ztable_step at H
  refine go_seq (rp 2 (go_seq (go_seq (r_in ?_))))
  replace H := must_some H
  obtain ⟨g28, H⟩ := H
  obtain ⟨b32, q33, rfl, cs31, hk30, hg29⟩ := rdS.open hr0z0 rfl g28
  obtain ⟨A34, c35, rfl, hl37, hr36⟩ := hk30
  replace H := must_some H
  obtain ⟨g38, H⟩ := H
  obtain ⟨b39, q40, rfl, _⟩ := rdS.fopen hr36 rfl g38
  refine bx 0 [.p, .p, .p, .l 0 1, .p, .x, .l 1 0, .p, .x, .l 2 0] (gC (hI.lies hb0z) (hI.lies hg29) (hI.lies (rdS.flook hr36 rfl g38))) _ (bC g28 (bZ g38)) (ro ?_)
  replace H := cond_some H
  rcases H with ⟨hc41, H⟩ | ⟨hc41, H⟩
  · refine gt hc41 (go_seq (rp 2 ?_))
    replace H := Option.some.inj H
    subst H
    exact gr Try.func38 ⟨rfl, hI⟩
  · refine ge hc41 (go_skip (go_seq ?_))
    replace H := must_some H
    obtain ⟨g64, H⟩ := H
    obtain ⟨b68, q69, rfl, cs67, hk66, hg65⟩ := rdS.open hr0z1 rfl g64
    obtain ⟨A70, c71, rfl, hl73, hr72⟩ := hk66
    replace H := must_some H
    obtain ⟨g74, H⟩ := H
    obtain ⟨b75, q76, rfl, _⟩ := rdS.fopen hr72 rfl g74
    obtain ⟨cs79, hk78, hg77⟩ := rdS.look hr0z1 rfl g64
    obtain ⟨A80, c81, rfl, hl83, hr82⟩ := hk78
    obtain ⟨b84, q85, rfl, _⟩ := rdS.fopen hr82 rfl g74
    refine dx [.p, .p, .p, .l 0 2, .p, .x, .l 1 0, .p, .x, .l 2 0, .p, .p, .p, .l 0 2, .p, .x, .l 3 0, .p, .x, .l 4 0, .p, .p] (gK (hI.lies hb0z) (gD (hI.lies hg65) (hI.lies (rdS.flook hr72 rfl g74)) (hI.lies hg77) (hI.lies (rdS.flook hr82 rfl g74)))) _ (bC g64 (bC g74 (bC g64 (bZ g74)))) hI ?_
    clear hI
    intro _ hI
    replace H := Option.some.inj H
    subst H
    exact gr Try.func38 ⟨rfl, hI⟩

/-! ### assizeref07ztable_ways -/
theorem enter39 (a : Array Value) : Sem.pureRun Try.prog (callFunc 39 a) = some (.enter 39 a) := by kernel_rfl
theorem assizeref07ztable_ways_calls (b0z : Nat) (a0 : Assizeref07Table) (A0z0 : Option Addr) (c0z0 : Nat) (A0z1 : Option Addr) (c0z1 : Nat) (a1 : Int) (a2 : Bool) (M : Mem) (w : World) (hI : Inv M w []) (hb0z : Lies M.blk (b0z, 0, [vI a0.n, vS A0z0 a0.d.length c0z0, vS A0z1 a0.r.length c0z1])) (hr0z0 : rdS (tSlice 4 tBool) M.blk A0z0 a0.d) (hl0z0 : a0.d.length ≤ c0z0) (hr0z1 : rdS (tSlice 4 tBool) M.blk A0z1 a0.r) (hl0z1 : a0.r.length ≤ c0z1) (r : (List (Int × Int))) (H : assizeref07ztable_ways a0 a1 a2 = some r) :
    Calls Try.prog 39 #[vP b0z 0, vI a1, vB a2] w fun e w' => ∃ (A16452 : Option Addr), ∃ (c16453 : Nat), e = .returned (vS A16452 r.length c16453) ∧ Inv M w' [.row (Ty.flat 2 (fun x : Int × Int => [vI x.1, vI x.2]) (fun _ => rfl) (fun _ => oneAll rfl)) 88 A16452 r.length c16453 r] := by
  refine cg Try.func39 ?_
  intro cs
  unfold assizeref07ztable_ways at H
  refine go_seq (rp 1 (go_seq (r_in (bg 0 [.p, .p, .p, .l 0 0] (gA (hI.lies hb0z)) ?_))))
  replace H := must_some H
  obtain ⟨g3, H⟩ := H
  refine oe 4 rfl ?_
  refine e_make (Ty.flat 2 (fun x : Int × Int => [vI x.1, vI x.2]) (fun _ => rfl) (fun _ => oneAll rfl)) (default : Int × Int) 86 88 _ _ _ (.agg #[vI 0, vI 0]) a0.n rfl rfl rfl rfl rfl rfl (fun _ => rfl) (by kernel_rfl) (by kernel_rfl) g3 hI ?_
  clear hI
  intro b4 _ hI
  refine bp 5 1 (ro (go_seq (go_seq (rp 1 (go_block ?_)))))
  refine go_is 7 (vS (some ⟨b4, 0, none⟩) a0.n.toNat a0.n.toNat) (vS (some ⟨b4, 0, none⟩) ((List.replicate a0.n.toNat (default : Int × Int)).length) a0.n.toNat) (by kernel_rfl) (by first | rfl | simp only [List.length_set, List.length_replicate, List.length_nil]) ?_
  replace hI := hI.renum 0 rfl
  refine go_iter (assizeref07ztable_ways.s1 a0 a1 a2) (fun (l94, x97) f w => ∃ (j : Nat → Value) (A95 : Option Addr) (c96 : Nat), f = updL j [(0, vP b0z 0), (1, vI a1), (2, vB a2), (7, vS A95 l94.length c96), (8, vI x97)] ∧ Inv M w [.row (Ty.flat 2 (fun x : Int × Int => [vI x.1, vI x.2]) (fun _ => rfl) (fun _ => oneAll rfl)) 88 A95 l94.length c96 l94]) H ⟨_, (some ⟨b4, 0, none⟩), a0.n.toNat, at_, hI⟩ ?_
  clear H hI
  rintro ⟨l94, x97⟩ _ _ o1 H ⟨_, A95, c96, rfl, hI⟩ hin1 hout1
  refine go_seq (go_seq (rg [.p, .p, .p, .p, .l 0 0, .p] (gA (hI.lies hb0z)) ?_))
  replace H := cond_some H
  rcases H with ⟨hc99, H⟩ | ⟨hc99, H⟩
  · refine gt hc99 (go_skip (go_seq (go_block (r_in ?_))))
    replace H := must_some H
    obtain ⟨g104, H⟩ := H
    obtain ⟨b105, rfl⟩ := hI.rowAt 0 rfl g104
    refine bx 0 [.p, .p, .p, .x] gO _ (bZ g104) (oe 4 rfl ?_)
    refine e_put 88 _ _ 0 b105 88 l94.length c96 l94 ((1048576, 1048576) : Int × Int) x97 0 (.agg #[vI 1048576, vI 1048576]) rfl (by kernel_rfl) (by kernel_rfl) (by kernel_rfl) (by kernel_rfl) hI rfl g104 (by kernel_rfl) (by kernel_rfl) ?_
    clear hI
    intro _ hI
    refine ro (go_inBlock (rp 3 ?_))
    refine go_is 7 (vS (some ⟨b105, 0, none⟩) l94.length c96) (vS (some ⟨b105, 0, none⟩) ((l94.set x97.toNat ((1048576, 1048576) : Int × Int)).length) c96) (by kernel_rfl) (by first | rfl | simp only [List.length_set, List.length_replicate, List.length_nil]) ?_
    replace hI := hI.renum 0 rfl
    exact hin1 _ (Option.some.inj H).symm _ _ ⟨_, (some ⟨b105, 0, none⟩), c96, at_, hI⟩
  · refine ge hc99 ?_
    refine go_exit rfl ?_
    refine go_seq (r_in ?_)
    replace H := must_some H
    obtain ⟨g108, H⟩ := H
    obtain ⟨b109, rfl⟩ := hI.rowAt 0 rfl g108
    refine bx 0 [.p, .p, .x, .p] gO _ (bZ g108) (oe 4 rfl ?_)
    refine e_put 3 _ _ 0 b109 88 l94.length c96 l94 ((0, (idx l94 a1).2) : Int × Int) a1 0 (vI 0) rfl (by kernel_rfl) (by kernel_rfl) (by kernel_rfl) (by kernel_rfl) hI rfl g108 (by kernel_rfl) (by kernel_rfl) ?_
    clear hI
    intro _ hI
    refine ro ?_
    refine go_seq_join (o := o1) (fun l111 f w => ∃ (j : Nat → Value) (A112 : Option Addr) (c113 : Nat), f = updL j [(0, vP b0z 0), (1, vI a1), (7, vS A112 l111.length c113)] ∧ Inv M w [.row (Ty.flat 2 (fun x : Int × Int => [vI x.1, vI x.2]) (fun _ => rfl) (fun _ => oneAll rfl)) 88 A112 l111.length c113 l111]) (fun l111 => assizeref07ztable_ways.j2 a0 a1 l111) ?_ (fun hJ114 => ?_)
    · clear H hI
      rintro l111 _ _ ⟨_, A112, c113, rfl, hI⟩ H
      refine go_seq (go_seq (rp 1 (go_block ?_)))
      refine go_iter (assizeref07ztable_ways.s3 a0 a1) (fun (l10668, b10671) f w => ∃ (j : Nat → Value) (A10669 : Option Addr) (c10670 : Nat), f = updL j [(0, vP b0z 0), (1, vI a1), (7, vS A10669 l10668.length c10670), (9, vB b10671)] ∧ Inv M w [.row (Ty.flat 2 (fun x : Int × Int => [vI x.1, vI x.2]) (fun _ => rfl) (fun _ => oneAll rfl)) 88 A10669 l10668.length c10670 l10668]) H ⟨_, A112, c113, at_, hI⟩ ?_
      clear H hI
      rintro ⟨l10668, b10671⟩ _ _ o2 H ⟨_, A10669, c10670, rfl, hI⟩ hin2 hout2
      refine go_seq (go_seq (rp 1 ?_))
      replace H := cond_some H
      rcases H with ⟨hc10673, H⟩ | ⟨hc10673, H⟩
      · refine gt hc10673 (go_skip (go_block (go_seq (rp 1 (go_seq (rp 2 (go_block ?_)))))))
        refine go_iter (assizeref07ztable_ways.s4 a0 a1) (fun (l14167, b14170, x14171) f w => ∃ (j : Nat → Value) (A14168 : Option Addr) (c14169 : Nat), f = updL j [(0, vP b0z 0), (1, vI a1), (7, vS A14168 l14167.length c14169), (9, vB b14170), (10, vI x14171)] ∧ Inv M w [.row (Ty.flat 2 (fun x : Int × Int => [vI x.1, vI x.2]) (fun _ => rfl) (fun _ => oneAll rfl)) 88 A14168 l14167.length c14169 l14167]) H ⟨_, A10669, c10670, at_, hI⟩ ?_
        clear H hI
        rintro ⟨l14167, b14170, x14171⟩ _ _ o3 H ⟨_, A14168, c14169, rfl, hI⟩ hin3 hout3
        refine go_seq (go_seq (rg [.p, .p, .p, .p, .l 0 0, .p] (gA (hI.lies hb0z)) ?_))
        replace H := cond_some H
        rcases H with ⟨hc14173, H⟩ | ⟨hc14173, H⟩
        · refine gt hc14173 (go_skip (go_seq (go_block (go_seq (rp 1 (go_block ?_))))))
          refine go_iter (assizeref07ztable_ways.s5 a0 a1 x14171) (fun (l15738, b15741, x15742) f w => ∃ (j : Nat → Value) (A15739 : Option Addr) (c15740 : Nat), f = updL j [(0, vP b0z 0), (1, vI a1), (7, vS A15739 l15738.length c15740), (9, vB b15741), (10, vI x14171), (11, vI x15742)] ∧ Inv M w [.row (Ty.flat 2 (fun x : Int × Int => [vI x.1, vI x.2]) (fun _ => rfl) (fun _ => oneAll rfl)) 88 A15739 l15738.length c15740 l15738]) H ⟨_, A14168, c14169, at_, hI⟩ ?_
          clear H hI
          rintro ⟨l15738, b15741, x15742⟩ _ _ o4 H ⟨_, A15739, c15740, rfl, hI⟩ hin4 hout4
          refine go_seq (go_seq (rp 2 ?_))
          replace H := cond_some H
          rcases H with ⟨hc15744, H⟩ | ⟨hc15744, H⟩
          · refine gt hc15744 (go_skip (go_seq ?_))
            refine go_block_join (o := o4) (fun (l16048, b16051, x16052) f w => ∃ (j : Nat → Value) (A16049 : Option Addr) (c16050 : Nat), f = updL j [(0, vP b0z 0), (1, vI a1), (7, vS A16049 l16048.length c16050), (9, vB b16051), (10, vI x14171), (11, vI x16052)] ∧ Inv M w [.row (Ty.flat 2 (fun x : Int × Int => [vI x.1, vI x.2]) (fun _ => rfl) (fun _ => oneAll rfl)) 88 A16049 l16048.length c16050 l16048]) (fun (l16048, b16051, x16052) => assizeref07ztable_ways.j6 l16048 b16051 x16052) ?_ (fun hJ16053 => ?_)
            · clear H hI
              rintro ⟨l16048, b16051, x16052⟩ _ _ ⟨_, A16049, c16050, rfl, hI⟩ H
              refine rp 3 ?_
              exact hin4 _ (Option.some.inj H).symm _ _ ⟨_, A16049, c16050, at_, hI⟩
            · refine go_seq ?_
              refine go_seq_join (o := o4) (fun (x16079, b16080) f w => ∃ (j : Nat → Value), f = updL j [(0, vP b0z 0), (1, vI a1), (7, vS A15739 l15738.length c15740), (9, vB b15741), (10, vI x14171), (11, vI x16079), (68, vB b16080)] ∧ Inv M w [.row (Ty.flat 2 (fun x : Int × Int => [vI x.1, vI x.2]) (fun _ => rfl) (fun _ => oneAll rfl)) 88 A15739 l15738.length c15740 l15738]) (fun (x16079, b16080) => assizeref07ztable_ways.j7 a0 a1 x14171 l15738 b15741 x16079 b16080) ?_ (fun hJ16081 => ?_)
              · clear H hI
                rintro ⟨x16079, b16080⟩ _ _ ⟨_, rfl, hI⟩ H
                replace H := cond_some H
                rcases H with ⟨hc16082, H⟩ | ⟨hc16082, H⟩
                · refine gt hc16082 ?_
                  refine go_exit rfl ?_
                  exact hJ16053 (l15738, b15741, x16079) _ _ ⟨_, A15739, c15740, at_, hI⟩ H
                · refine ge hc16082 (go_skip (go_seq (rp 2 (go_block ?_))))
                  refine go_iter (assizeref07ztable_ways.s8 a0 x14171) (fun (l16314, b16317, x16318, x16319) f w => ∃ (j : Nat → Value) (A16315 : Option Addr) (c16316 : Nat), f = updL j [(0, vP b0z 0), (1, vI a1), (7, vS A16315 l16314.length c16316), (9, vB b16317), (10, vI x14171), (11, vI x16318), (12, vI x16319)] ∧ Inv M w [.row (Ty.flat 2 (fun x : Int × Int => [vI x.1, vI x.2]) (fun _ => rfl) (fun _ => oneAll rfl)) 88 A16315 l16314.length c16316 l16314]) H ⟨_, A15739, c15740, at_, hI⟩ ?_
                  clear H hI
                  rintro ⟨l16314, b16317, x16318, x16319⟩ _ _ o5 H ⟨_, A16315, c16316, rfl, hI⟩ hin5 hout5
                  refine go_seq (go_seq (rg [.p, .p, .p, .p, .l 0 0, .p] (gA (hI.lies hb0z)) ?_))
                  replace H := cond_some H
                  rcases H with ⟨hc16321, H⟩ | ⟨hc16321, H⟩
                  · refine gt hc16321 (go_skip (go_seq ?_))
                    refine go_block_join (o := o5) (fun (l16381, b16384, x16385) f w => ∃ (j : Nat → Value) (A16382 : Option Addr) (c16383 : Nat), f = updL j [(0, vP b0z 0), (1, vI a1), (7, vS A16382 l16381.length c16383), (9, vB b16384), (10, vI x14171), (11, vI x16385), (12, vI x16319)] ∧ Inv M w [.row (Ty.flat 2 (fun x : Int × Int => [vI x.1, vI x.2]) (fun _ => rfl) (fun _ => oneAll rfl)) 88 A16382 l16381.length c16383 l16381]) (fun (l16381, b16384, x16385) => assizeref07ztable_ways.j9 x16319 l16381 b16384 x16385) ?_ (fun hJ16386 => ?_)
                    · clear H hI
                      rintro ⟨l16381, b16384, x16385⟩ _ _ ⟨_, A16382, c16383, rfl, hI⟩ H
                      refine rp 3 ?_
                      exact hin5 _ (Option.some.inj H).symm _ _ ⟨_, A16382, c16383, at_, hI⟩
                    · refine go_seq (r_in (bp 0 3 ?_))
                      replace H := bind_some H
                      obtain ⟨y16389, hy16390, H⟩ := H
                      refine oe 3 rfl ?_
                      refine ec (enter38 _) (assizeref07ztable_step_calls b0z a0 A0z0 c0z0 A0z1 c0z1 x14171 x16319 (memOf _) _ (Inv.start _) (Lies.mono hb0z hI.fix) (hI.rd hr0z0) hl0z0 (hI.rd hr0z1) hl0z1 _ hy16390) ?_
                      rintro _ _ ⟨rfl, hI'⟩
                      replace hI := hI.call0 hI'
                      clear hI'
                      refine ⟨_, rfl, ?_⟩
                      refine bp 4 5 (ro (go_seq ?_))
                      refine go_seq_join (o := o5) (fun b16397 f w => ∃ (j : Nat → Value), f = updL j [(0, vP b0z 0), (1, vI a1), (7, vS A16315 l16314.length c16316), (9, vB b16317), (10, vI x14171), (11, vI x16318), (12, vI x16319), (14, vB y16389.2), (93, vB b16397)] ∧ Inv M w [.row (Ty.flat 2 (fun x : Int × Int => [vI x.1, vI x.2]) (fun _ => rfl) (fun _ => oneAll rfl)) 88 A16315 l16314.length c16316 l16314]) (fun b16397 => assizeref07ztable_ways.j10 x14171 l16314 b16317 x16318 x16319 y16389 b16397) ?_ (fun hJ16398 => ?_)
                      · clear H hI
                        rintro b16397 _ _ ⟨_, rfl, hI⟩ H
                        replace H := cond_some H
                        rcases H with ⟨hc16399, H⟩ | ⟨hc16399, H⟩
                        · refine gt hc16399 ?_
                          refine go_exit rfl ?_
                          exact hJ16386 (l16314, b16317, x16318) _ _ ⟨_, A16315, c16316, at_, hI⟩ H
                        · refine ge hc16399 (go_skip (go_seq (r_in ?_)))
                          replace H := must_some H
                          obtain ⟨g16402, H⟩ := H
                          obtain ⟨b16403, rfl⟩ := hI.rowAt 0 rfl g16402
                          refine bx 0 [.p, .p, .x, .p, .l 0 0, .p] (gA ((rdS.flook (hI.row 0 rfl) (hI.rowlen 0 rfl) g16402).ok)) _ (bZ g16402) (ro ?_)
                          refine go_seq_join (o := o5) (fun x16405 f w => ∃ (j : Nat → Value), f = updL j [(0, vP b0z 0), (1, vI a1), (7, vS (some ⟨b16403, 0, none⟩) l16314.length c16316), (9, vB b16317), (10, vI x14171), (11, vI x16318), (12, vI x16319), (15, vI x16405)] ∧ Inv M w [.row (Ty.flat 2 (fun x : Int × Int => [vI x.1, vI x.2]) (fun _ => rfl) (fun _ => oneAll rfl)) 88 (some ⟨b16403, 0, none⟩) l16314.length c16316 l16314]) (fun x16405 => assizeref07ztable_ways.j11 x14171 l16314 b16317 x16318 x16319 x16405) ?_ (fun hJ16406 => ?_)
                          · clear H hI
                            rintro x16405 _ _ ⟨_, rfl, hI⟩ H
                            refine go_seq_join (o := o5) (fun (x16412, b16413) f w => ∃ (j : Nat → Value), f = updL j [(0, vP b0z 0), (1, vI a1), (7, vS (some ⟨b16403, 0, none⟩) l16314.length c16316), (9, vB b16317), (10, vI x14171), (11, vI x16412), (12, vI x16319), (15, vI x16405), (113, vB b16413)] ∧ Inv M w [.row (Ty.flat 2 (fun x : Int × Int => [vI x.1, vI x.2]) (fun _ => rfl) (fun _ => oneAll rfl)) 88 (some ⟨b16403, 0, none⟩) l16314.length c16316 l16314]) (fun (x16412, b16413) => assizeref07ztable_ways.j12 x14171 l16314 b16317 x16319 x16405 x16412 b16413) ?_ (fun hJ16414 => ?_)
                            · clear H hI
                              rintro ⟨x16412, b16413⟩ _ _ ⟨_, rfl, hI⟩ H
                              replace H := cond_some H
                              rcases H with ⟨hc16415, H⟩ | ⟨hc16415, H⟩
                              · refine gt hc16415 ?_
                                refine go_seq_join (o := o5) (fun (l16421, x16424) f w => ∃ (j : Nat → Value) (A16422 : Option Addr) (c16423 : Nat), f = updL j [(0, vP b0z 0), (1, vI a1), (7, vS A16422 l16421.length c16423), (10, vI x14171), (11, vI x16424), (12, vI x16319)] ∧ Inv M w [.row (Ty.flat 2 (fun x : Int × Int => [vI x.1, vI x.2]) (fun _ => rfl) (fun _ => oneAll rfl)) 88 A16422 l16421.length c16423 l16421]) (fun (l16421, x16424) => assizeref07ztable_ways.j13 x16319 l16421 x16424) ?_ (fun hJ16425 => ?_)
                                · clear H hI
                                  rintro ⟨l16421, x16424⟩ _ _ ⟨_, A16422, c16423, rfl, hI⟩ H
                                  refine rp 1 (go_inBlock ?_)
                                  exact hJ16386 (l16421, true, x16424) _ _ ⟨_, A16422, c16423, at_, hI⟩ H
                                · replace H := must_some H
                                  obtain ⟨g16427, H⟩ := H
                                  replace H := cond_some H
                                  rcases H with ⟨hc16428, H⟩ | ⟨hc16428, H⟩
                                  · refine go_is 11 (vI x16412) (vI 0) (by kernel_rfl) (congrArg (Value.int .i64) (eq_of_beq hc16428)) ?_
                                    refine r_in ?_
                                    replace H := must_some H
                                    obtain ⟨g16429, H⟩ := H
                                    refine bx 0 [.p, .p, .p, .p, .p, .x, .p] gO _ (bZ g16429) (oe 7 rfl ?_)
                                    refine e_put 3 _ _ 0 b16403 88 l16314.length c16316 l16314 ((w64 (x16405 + 1), (idx l16314 x14171).2) : Int × Int) x14171 0 (vI (w64 (x16405 + 1))) rfl (by kernel_rfl) (by kernel_rfl) (by kernel_rfl) (by kernel_rfl) hI rfl g16429 (by kernel_rfl) (by kernel_rfl) ?_
                                    clear hI
                                    intro _ hI
                                    refine ro ?_
                                    refine go_is 7 (vS (some ⟨b16403, 0, none⟩) l16314.length c16316) (vS (some ⟨b16403, 0, none⟩) ((l16314.set x14171.toNat ((w64 (x16405 + 1), (idx l16314 x14171).2) : Int × Int)).length) c16316) (by kernel_rfl) (by first | rfl | simp only [List.length_set, List.length_replicate, List.length_nil]) ?_
                                    replace hI := hI.renum 0 rfl
                                    exact hJ16425 (l16314.set x14171.toNat ((w64 (x16405 + 1), (idx l16314 x14171).2) : Int × Int), 0) _ _ ⟨_, (some ⟨b16403, 0, none⟩), c16316, at_, hI⟩ H
                                  · refine go_is 11 (vI x16412) (vI 1) (by kernel_rfl) (congrArg (Value.int .i64) (two_of g16427 hc16428)) ?_
                                    refine r_in ?_
                                    replace H := must_some H
                                    obtain ⟨g16430, H⟩ := H
                                    refine bx 0 [.p, .p, .p, .p, .p, .x, .p] gO _ (bZ g16430) (oe 7 rfl ?_)
                                    refine e_put 3 _ _ 0 b16403 88 l16314.length c16316 l16314 (((idx l16314 x14171).1, w64 (x16405 + 1)) : Int × Int) x14171 1 (vI (w64 (x16405 + 1))) rfl (by kernel_rfl) (by kernel_rfl) (by kernel_rfl) (by kernel_rfl) hI rfl g16430 (by kernel_rfl) (by kernel_rfl) ?_
                                    clear hI
                                    intro _ hI
                                    refine ro ?_
                                    refine go_is 7 (vS (some ⟨b16403, 0, none⟩) l16314.length c16316) (vS (some ⟨b16403, 0, none⟩) ((l16314.set x14171.toNat (((idx l16314 x14171).1, w64 (x16405 + 1)) : Int × Int)).length) c16316) (by kernel_rfl) (by first | rfl | simp only [List.length_set, List.length_replicate, List.length_nil]) ?_
                                    replace hI := hI.renum 0 rfl
                                    exact hJ16425 (l16314.set x14171.toNat (((idx l16314 x14171).1, w64 (x16405 + 1)) : Int × Int), 1) _ _ ⟨_, (some ⟨b16403, 0, none⟩), c16316, at_, hI⟩ H
                              · refine ge hc16415 (go_skip (go_inBlock ?_))
                                exact hJ16386 (l16314, b16317, x16412) _ _ ⟨_, (some ⟨b16403, 0, none⟩), c16316, at_, hI⟩ H
                            · replace H := must_some H
                              obtain ⟨g16432, H⟩ := H
                              replace H := cond_some H
                              rcases H with ⟨hc16433, H⟩ | ⟨hc16433, H⟩
                              · refine go_is 11 (vI x16318) (vI 0) (by kernel_rfl) (congrArg (Value.int .i64) (eq_of_beq hc16433)) ?_
                                refine r_in ?_
                                replace H := must_some H
                                obtain ⟨g16434, H⟩ := H
                                refine bx 0 [.p, .p, .p, .p, .p, .x, .p, .l 0 0, .p] (gA ((rdS.flook (hI.row 0 rfl) (hI.rowlen 0 rfl) g16434).ok)) _ (bZ g16434) (ro ?_)
                                exact hJ16414 (0, decide (w64 (x16405 + 1) < (idx l16314 x14171).1)) _ _ ⟨_, at_, hI⟩ H
                              · refine go_is 11 (vI x16318) (vI 1) (by kernel_rfl) (congrArg (Value.int .i64) (two_of g16432 hc16433)) ?_
                                refine r_in ?_
                                replace H := must_some H
                                obtain ⟨g16435, H⟩ := H
                                refine bx 0 [.p, .p, .p, .p, .p, .x, .p, .l 0 1, .p] (gA ((rdS.flook (hI.row 0 rfl) (hI.rowlen 0 rfl) g16435).ok)) _ (bZ g16435) (ro ?_)
                                exact hJ16414 (1, decide (w64 (x16405 + 1) < (idx l16314 x14171).2)) _ _ ⟨_, at_, hI⟩ H
                          · refine go_seq (rp 1 ?_)
                            replace H := cond_some H
                            rcases H with ⟨hc16436, H⟩ | ⟨hc16436, H⟩
                            · refine gt hc16436 (r_in (bx 0 [.p, .p, .x, .p, .l 0 1, .p] (gA ((rdS.flook (hI.row 0 rfl) (hI.rowlen 0 rfl) g16402).ok)) _ (bZ g16402) (ro ?_)))
                              exact hJ16406 ((idx l16314 x16319).2) _ _ ⟨_, at_, hI⟩ H
                            · refine ge hc16436 (go_skip ?_)
                              exact hJ16406 ((idx l16314 x16319).1) _ _ ⟨_, at_, hI⟩ H
                      · refine r_in ?_
                        replace H := cond_some H
                        rcases H with ⟨hc16437, H⟩ | ⟨hc16437, H⟩
                        · refine bx 0 [.p, .p, .c true, .p, .p, .p, .p, .p, .p] gO _ (bZ (bndEq hc16437)) (ro ?_)
                          exact hJ16398 true _ _ ⟨_, at_, hI⟩ H
                        · replace H := cond_some H
                          rcases H with ⟨hc16438, H⟩ | ⟨hc16438, H⟩
                          · refine bx 0 [.p, .p, .c false, .p, .c true, .p, .p, .p, .p] gO _ (bC (bndEq hc16437) (bZ (bndEq hc16438))) (ro ?_)
                            exact hJ16398 (x16318 == 1) _ _ ⟨_, at_, hI⟩ H
                          · refine bx 0 [.p, .p, .c false, .p, .c false, .p, .p, .p, .p] gO _ (bC (bndEq hc16437) (bZ (bndEq hc16438))) (ro ?_)
                            exact hJ16398 false _ _ ⟨_, at_, hI⟩ H
                  · refine ge hc16321 ?_
                    refine go_exit rfl ?_
                    refine go_inBlock ?_
                    replace H := out_some H
                    obtain ⟨_, H, he5⟩ := H
                    have he := (hout5 _ he5).symm
                    subst he
                    exact hJ16053 (l16314, b16317, x16318) _ _ ⟨_, A16315, c16316, at_, hI⟩ H
              · replace H := must_some H
                obtain ⟨g16442, H⟩ := H
                replace H := cond_some H
                rcases H with ⟨hc16443, H⟩ | ⟨hc16443, H⟩
                · refine go_is 11 (vI x15742) (vI 0) (by kernel_rfl) (congrArg (Value.int .i64) (eq_of_beq hc16443)) ?_
                  refine go_is 53 (vI x15742) (vI 0) (by kernel_rfl) (congrArg (Value.int .i64) (eq_of_beq hc16443)) ?_
                  refine r_in ?_
                  replace H := cond_some H
                  rcases H with ⟨hc16444, H⟩ | ⟨hc16444, H⟩
                  · replace H := must_some H
                    obtain ⟨g16445, H⟩ := H
                    obtain ⟨b16446, rfl⟩ := hI.rowAt 0 rfl g16445
                    refine bx 0 [.p, .p, .p, .c true, .p, .p, .p, .x, .p, .l 0 0, .p, .p] (gA ((rdS.flook (hI.row 0 rfl) (hI.rowlen 0 rfl) g16445).ok)) _ (bC (bndEq hc16444) (bZ g16445)) (ro ?_)
                    exact hJ16081 (0, ((idx l15738 x14171).1 == 0)) _ _ ⟨_, at_, hI⟩ H
                  · refine bx 0 [.p, .p, .p, .c false, .p, .p, .p, .p, .p, .p, .p, .p] gO _ (bZ (bndEq hc16444)) (ro ?_)
                    exact hJ16081 (0, false) _ _ ⟨_, at_, hI⟩ H
                · refine go_is 11 (vI x15742) (vI 1) (by kernel_rfl) (congrArg (Value.int .i64) (two_of g16442 hc16443)) ?_
                  refine go_is 53 (vI x15742) (vI 1) (by kernel_rfl) (congrArg (Value.int .i64) (two_of g16442 hc16443)) ?_
                  refine r_in ?_
                  replace H := cond_some H
                  rcases H with ⟨hc16447, H⟩ | ⟨hc16447, H⟩
                  · replace H := must_some H
                    obtain ⟨g16448, H⟩ := H
                    obtain ⟨b16449, rfl⟩ := hI.rowAt 0 rfl g16448
                    refine bx 0 [.p, .p, .p, .c true, .p, .p, .p, .x, .p, .l 0 1, .p, .p] (gA ((rdS.flook (hI.row 0 rfl) (hI.rowlen 0 rfl) g16448).ok)) _ (bC (bndEq hc16447) (bZ g16448)) (ro ?_)
                    exact hJ16081 (1, ((idx l15738 x14171).2 == 0)) _ _ ⟨_, at_, hI⟩ H
                  · refine bx 0 [.p, .p, .p, .c false, .p, .p, .p, .p, .p, .p, .p, .p] gO _ (bZ (bndEq hc16447)) (ro ?_)
                    exact hJ16081 (1, false) _ _ ⟨_, at_, hI⟩ H
          · refine ge hc15744 ?_
            refine go_exit rfl ?_
            refine go_inBlock (rp 3 ?_)
            replace H := out_some H
            obtain ⟨_, H, he4⟩ := H
            have he := (hout4 _ he4).symm
            subst he
            exact hin3 _ (Option.some.inj H).symm _ _ ⟨_, A15739, c15740, at_, hI⟩
        · refine ge hc14173 ?_
          refine go_exit rfl ?_
          refine go_inBlock ?_
          replace H := out_some H
          obtain ⟨_, H, he3⟩ := H
          have he := (hout3 _ he3).symm
          subst he
          exact hin2 _ (Option.some.inj H).symm _ _ ⟨_, A14168, c14169, at_, hI⟩
      · refine ge hc10673 ?_
        refine go_exit rfl ?_
        refine go_seq (rp 2 ?_)
        replace H := out_some H
        obtain ⟨_, H, he2⟩ := H
        have he := (hout2 _ he2).symm
        subst he
        replace H := out_some H
        obtain ⟨_, H, he1⟩ := H
        have he := (hout1 _ he1).symm
        subst he
        replace H := Option.some.inj H
        subst H
        exact gr Try.func39 ⟨A10669, c10670, rfl, hI⟩
    · refine go_seq (rp 2 ?_)
      replace H := cond_some H
      rcases H with ⟨hc16450, H⟩ | ⟨hc16450, H⟩
      · refine gt hc16450 (r_in (bx 0 [.p, .p, .x, .p] gO _ (bZ g108) (oe 4 rfl ?_)))
        refine e_put 3 _ _ 0 b109 88 l94.length c96 (l94.set a1.toNat ((0, (idx l94 a1).2) : Int × Int)) (((idx (l94.set a1.toNat ((0, (idx l94 a1).2) : Int × Int)) a1).1, 0) : Int × Int) a1 1 (vI 0) rfl (by kernel_rfl) (by kernel_rfl) (by kernel_rfl) (by kernel_rfl) hI rfl g108 (by kernel_rfl) (by kernel_rfl) ?_
        clear hI
        intro _ hI
        refine ro ?_
        refine go_is 7 (vS (some ⟨b109, 0, none⟩) l94.length c96) (vS (some ⟨b109, 0, none⟩) (((l94.set a1.toNat ((0, (idx l94 a1).2) : Int × Int)).set a1.toNat (((idx (l94.set a1.toNat ((0, (idx l94 a1).2) : Int × Int)) a1).1, 0) : Int × Int)).length) c96) (by kernel_rfl) (by first | rfl | simp only [List.length_set, List.length_replicate, List.length_nil]) ?_
        replace hI := hI.renum 0 rfl
        exact hJ114 ((l94.set a1.toNat ((0, (idx l94 a1).2) : Int × Int)).set a1.toNat (((idx (l94.set a1.toNat ((0, (idx l94 a1).2) : Int × Int)) a1).1, 0) : Int × Int)) _ _ ⟨_, (some ⟨b109, 0, none⟩), c96, at_, hI⟩ H
      · refine ge hc16450 (go_skip ?_)
        refine go_is 7 (vS (some ⟨b109, 0, none⟩) l94.length c96) (vS (some ⟨b109, 0, none⟩) ((l94.set a1.toNat ((0, (idx l94 a1).2) : Int × Int)).length) c96) (by kernel_rfl) (by first | rfl | simp only [List.length_set, List.length_replicate, List.length_nil]) ?_
        replace hI := hI.renum 0 rfl
        exact hJ114 (l94.set a1.toNat ((0, (idx l94 a1).2) : Int × Int)) _ _ ⟨_, (some ⟨b109, 0, none⟩), c96, at_, hI⟩ H

/-! ### assizeref07ztable_from -/
theorem enter32 (a : Array Value) : Sem.pureRun Try.prog (callFunc 32 a) = some (.enter 32 a) := by kernel_rfl
theorem assizeref07ztable_from_calls (b0z : Nat) (a0 : Assizeref07Table) (A0z0 : Option Addr) (c0z0 : Nat) (A0z1 : Option Addr) (c0z1 : Nat) (a1 : Int) (M : Mem) (w : World) (hI : Inv M w []) (hb0z : Lies M.blk (b0z, 0, [vI a0.n, vS A0z0 a0.d.length c0z0, vS A0z1 a0.r.length c0z1])) (hr0z0 : rdS (tSlice 4 tBool) M.blk A0z0 a0.d) (hl0z0 : a0.d.length ≤ c0z0) (hr0z1 : rdS (tSlice 4 tBool) M.blk A0z1 a0.r) (hl0z1 : a0.r.length ≤ c0z1) (r : List Int) (H : assizeref07ztable_from a0 a1 = some r) :
    Calls Try.prog 32 #[vP b0z 0, vI a1] w fun e w' => ∃ (A1255 : Option Addr), ∃ (c1256 : Nat), e = .returned (vS A1255 r.length c1256) ∧ Inv M w' [.row (tInt .i64) 3 A1255 r.length c1256 r] := by
  refine cg Try.func32 ?_
  intro cs
  unfold assizeref07ztable_from at H
  refine go_seq (rp 1 (go_seq (rp 3 (go_seq (go_seq (rp 2 (go_block ?_)))))))
  refine go_iter (assizeref07ztable_from.s1 a0 a1) (fun (x197, x198, b199, x200) f w => ∃ (j : Nat → Value), f = updL j [(0, vP b0z 0), (1, vI a1), (5, vI x197), (6, vI x198), (7, vB b199), (8, vI x200)] ∧ Inv M w []) H ⟨_, at_, hI⟩ ?_
  clear H hI
  rintro ⟨x197, x198, b199, x200⟩ _ _ o1 H ⟨_, rfl, hI⟩ hin1 hout1
  refine go_seq (go_seq (rg [.p, .p, .p, .p, .l 0 0, .p] (gA (hI.lies hb0z)) ?_))
  replace H := cond_some H
  rcases H with ⟨hc202, H⟩ | ⟨hc202, H⟩
  · refine gt hc202 (go_skip (go_seq ?_))
    refine go_block_join (o := o1) (fun (x230, x231, b232) f w => ∃ (j : Nat → Value), f = updL j [(0, vP b0z 0), (1, vI a1), (5, vI x230), (6, vI x231), (7, vB b232), (8, vI x200)] ∧ Inv M w []) (fun (x230, x231, b232) => assizeref07ztable_from.j2 x200 x230 x231 b232) ?_ (fun hJ233 => ?_)
    · clear H hI
      rintro ⟨x230, x231, b232⟩ _ _ ⟨_, rfl, hI⟩ H
      refine rp 3 ?_
      exact hin1 _ (Option.some.inj H).symm _ _ ⟨_, at_, hI⟩
    · refine go_seq (r_in (bp 0 3 ?_))
      replace H := bind_some H
      obtain ⟨y236, hy237, H⟩ := H
      refine oe 3 rfl ?_
      refine ec (enter38 _) (assizeref07ztable_step_calls b0z a0 A0z0 c0z0 A0z1 c0z1 a1 x200 (memOf _) _ (Inv.start _) (Lies.mono hb0z hI.fix) (hI.rd hr0z0) hl0z0 (hI.rd hr0z1) hl0z1 _ hy237) ?_
      rintro _ _ ⟨rfl, hI'⟩
      replace hI := hI.call0 hI'
      clear hI'
      refine ⟨_, rfl, ?_⟩
      refine bp 4 5 (ro (go_seq (go_seq (rp 2 ?_))))
      replace H := cond_some H
      rcases H with ⟨hc239, H⟩ | ⟨hc239, H⟩
      · refine gt hc239 ?_
        refine go_exit rfl ?_
        exact hJ233 (x197, x198, b199) _ _ ⟨_, at_, hI⟩ H
      · refine ge hc239 (go_skip (go_seq (r_in (bp 0 3 ?_))))
        replace H := bind_some H
        obtain ⟨y244, hy245, H⟩ := H
        refine oe 3 rfl ?_
        refine ec (enter39 _) (assizeref07ztable_ways_calls b0z a0 A0z0 c0z0 A0z1 c0z1 a1 y236.2 (memOf _) _ (Inv.start _) (Lies.mono hb0z hI.fix) (hI.rd hr0z0) hl0z0 (hI.rd hr0z1) hl0z1 _ hy245) ?_
        rintro _ _ ⟨A246, c247, rfl, hI'⟩
        replace hI := hI.call0 hI'
        clear hI'
        refine ⟨_, rfl, ?_⟩
        refine bp 4 1 (ro (go_seq (r_in ?_)))
        replace H := must_some H
        obtain ⟨g250, H⟩ := H
        obtain ⟨b251, rfl⟩ := hI.rowAt 0 rfl g250
        refine bx 0 [.p, .p, .x, .p, .l 0 0, .p] (gA ((rdS.flook (hI.row 0 rfl) (hI.rowlen 0 rfl) g250).ok)) _ (bZ g250) (ro ?_)
        refine go_seq_join (o := o1) (fun x253 f w => ∃ (j : Nat → Value), f = updL j [(0, vP b0z 0), (1, vI a1), (5, vI x197), (6, vI x198), (7, vB b199), (8, vI x200), (10, vB y236.2), (12, vI x253)] ∧ Inv M w []) (fun x253 => assizeref07ztable_from.j3 x197 x198 b199 x200 y236 x253) ?_ (fun hJ254 => ?_)
        · clear H hI
          rintro x253 _ _ ⟨_, rfl, hI⟩ H
          refine go_seq (rp 4 ?_)
          replace H := cond_some H
          rcases H with ⟨hc255, H⟩ | ⟨hc255, H⟩
          · refine gt hc255 (rp 7 (go_inBlock ?_))
            exact hJ233 (w64 (x253 + 1), x200, y236.2) _ _ ⟨_, at_, hI⟩ H
          · refine ge hc255 (go_skip (go_inBlock ?_))
            exact hJ233 (x197, x198, b199) _ _ ⟨_, at_, hI⟩ H
        · refine go_seq (rp 1 ?_)
          replace H := cond_some H
          rcases H with ⟨hc256, H⟩ | ⟨hc256, H⟩
          · refine gt hc256 (r_in (bx 0 [.p, .p, .x, .p, .l 0 1, .p] (gA ((rdS.flook (hI.row 0 rfl) (hI.rowlen 0 rfl) g250).ok)) _ (bZ g250) (ro ?_)))
            exact hJ254 ((idx y244 x200).2) _ _ ⟨_, at_, hI.pn⟩ H
          · refine ge hc256 (go_skip ?_)
            exact hJ254 ((idx y244 x200).1) _ _ ⟨_, at_, hI.pn⟩ H
  · refine ge hc202 ?_
    refine go_exit rfl ?_
    refine go_seq (go_seq (rp 2 ?_))
    replace H := cond_some H
    rcases H with ⟨hc258, H⟩ | ⟨hc258, H⟩
    · refine gt hc258 (go_seq (rp 1 ?_))
      replace H := out_some H
      obtain ⟨_, H, he1⟩ := H
      have he := (hout1 _ he1).symm
      subst he
      replace H := Option.some.inj H
      subst H
      exact gr Try.func32 ⟨none, 0, rfl, (hI.nilrow (tInt .i64) 3)⟩
    · refine ge hc258 (go_skip (go_seq (r_in (bp 0 3 ?_))))
      replace H := bind_some H
      obtain ⟨y263, hy264, H⟩ := H
      refine oe 3 rfl ?_
      refine ec (enter39 _) (assizeref07ztable_ways_calls b0z a0 A0z0 c0z0 A0z1 c0z1 a1 b199 (memOf _) _ (Inv.start _) (Lies.mono hb0z hI.fix) (hI.rd hr0z0) hl0z0 (hI.rd hr0z1) hl0z1 _ hy264) ?_
      rintro _ _ ⟨A265, c266, rfl, hI'⟩
      replace hI := hI.call0 hI'
      clear hI'
      refine ⟨_, rfl, ?_⟩
      refine bp 4 1 (ro (go_seq (r_in (bp 0 1 (oe 1 rfl ?_)))))
      refine e_partsS 46 3 1 _ _ _ #[vI a1] [vI a1] rfl rfl rfl rfl (by kernel_rfl) (by kernel_rfl) (by kernel_rfl) (by kernel_rfl) hI ?_
      clear hI
      intro b269 _ hs270 hI
      replace hI := hI.asrow (k := (tInt .i64)) (xs := ([a1] : List Int)) (cs := [vI a1]) (R := []) (L' := [.row (Ty.flat 2 (fun x : Int × Int => [vI x.1, vI x.2]) (fun _ => rfl) (fun _ => oneAll rfl)) 88 A265 y263.length c266 y263]) 1 1 [] [0] (by decide) rfl (mks_cons (mk_flat (k := (tInt .i64)) a1 [vI a1] rfl) mks_nil) rfl rfl (by kernel_rfl)
      refine bp 2 1 (ro (go_seq (rp 2 (go_seq (go_seq (rp 3 (go_block ?_)))))))
      refine go_is 14 (vS (some ⟨b269, 0, none⟩) 1 1) (vS (some ⟨b269, 0, none⟩) (([a1] : List Int).length) 1) (by kernel_rfl) (by first | rfl | simp only [List.length_set, List.length_replicate, List.length_nil]) ?_
      replace hI := hI.renum 0 rfl
      refine go_iter (assizeref07ztable_from.s4 a0 a1 y263) (fun (x893, l894, b897, x898) f w => ∃ (j : Nat → Value) (A895 : Option Addr) (c896 : Nat), f = updL j [(0, vP b0z 0), (1, vI a1), (6, vI x893), (13, vS A265 y263.length c266), (14, vS A895 l894.length c896), (15, vB b897), (16, vI x898)] ∧ Inv M w [.row (Ty.flat 2 (fun x : Int × Int => [vI x.1, vI x.2]) (fun _ => rfl) (fun _ => oneAll rfl)) 88 A265 y263.length c266 y263, .row (tInt .i64) 3 A895 l894.length c896 l894]) H ⟨_, (some ⟨b269, 0, none⟩), 1, at_, hI.pick [1, 0] (by decide) rfl⟩ ?_
      clear H hI
      rintro ⟨x893, l894, b897, x898⟩ _ _ o2 H ⟨_, A895, c896, rfl, hI⟩ hin2 hout2
      refine go_seq (go_seq (rp 2 ?_))
      replace H := cond_some H
      rcases H with ⟨hc900, H⟩ | ⟨hc900, H⟩
      · refine gt hc900 (go_skip (go_seq (go_block (go_seq (r_in (bp 0 2 (oe 2 rfl ?_)))))))
        refine e_partsS 46 3 1 _ _ _ #[vI x893] [vI x893] rfl rfl rfl rfl (by kernel_rfl) (by kernel_rfl) (by kernel_rfl) (by kernel_rfl) hI ?_
        clear hI
        intro b1034 _ hs1035 hI
        replace H := must_some H
        obtain ⟨g1036, H⟩ := H
        refine oe 3 rfl ?_
        refine e_append (tInt .i64) 46 0 3 _ _ _ _ A895 l894.length c896 l894 ([x893] : List Int) b1034 0 1 1 [vI x893] 1 [] [0, 2] [] [.row (Ty.flat 2 (fun x : Int × Int => [vI x.1, vI x.2]) (fun _ => rfl) (fun _ => oneAll rfl)) 88 A265 y263.length c266 y263, .blk b1034 3 [vI x893]] rfl (by kernel_rfl) (by kernel_rfl) rfl rfl rfl rfl rfl (by kernel_rfl) hI (by decide) rfl rfl rfl (hI.grp 2 rfl) g1036 (mks_cons (mk_flat (k := (tInt .i64)) x893 [vI x893] rfl) mks_nil) ?_
        clear hI
        intro A1037 c1038 _ hI
        replace hI := hI.pick (L' := [.row (tInt .i64) 3 A1037 ((l894 ++ ([x893] : List Int)).length) c1038 (l894 ++ ([x893] : List Int)), .row (Ty.flat 2 (fun x : Int × Int => [vI x.1, vI x.2]) (fun _ => rfl) (fun _ => oneAll rfl)) 88 A265 y263.length c266 y263]) [0, 1] (by decide) rfl
        refine bp 4 1 (ro (go_seq (rp 2 (go_seq (rp 1 (go_seq (go_seq (rp 2 (go_block ?_)))))))))
        refine go_iter (assizeref07ztable_from.s5 a0 y263 x893 l894 b897 x898) (fun (x1193, x1194) f w => ∃ (j : Nat → Value), f = updL j [(0, vP b0z 0), (1, vI a1), (6, vI x1193), (13, vS A265 y263.length c266), (14, vS A1037 ((l894 ++ ([x893] : List Int)).length) c1038), (15, vB b897), (16, vI x898), (17, vI x893), (18, vI x1194)] ∧ Inv M w [.row (Ty.flat 2 (fun x : Int × Int => [vI x.1, vI x.2]) (fun _ => rfl) (fun _ => oneAll rfl)) 88 A265 y263.length c266 y263, .row (tInt .i64) 3 A1037 ((l894 ++ ([x893] : List Int)).length) c1038 (l894 ++ ([x893] : List Int))]) H ⟨_, at_, hI.pick [1, 0] (by decide) rfl⟩ ?_
        clear H hI
        rintro ⟨x1193, x1194⟩ _ _ o3 H ⟨_, rfl, hI⟩ hin3 hout3
        refine go_seq ?_
        refine go_seq_join (o := o3) (fun b1199 f w => ∃ (j : Nat → Value), f = updL j [(0, vP b0z 0), (1, vI a1), (6, vI x1193), (13, vS A265 y263.length c266), (14, vS A1037 ((l894 ++ ([x893] : List Int)).length) c1038), (15, vB b897), (16, vI x898), (17, vI x893), (18, vI x1194), (93, vB b1199)] ∧ Inv M w [.row (Ty.flat 2 (fun x : Int × Int => [vI x.1, vI x.2]) (fun _ => rfl) (fun _ => oneAll rfl)) 88 A265 y263.length c266 y263, .row (tInt .i64) 3 A1037 ((l894 ++ ([x893] : List Int)).length) c1038 (l894 ++ ([x893] : List Int))]) (fun b1199 => assizeref07ztable_from.j6 a0 y263 x893 l894 b897 x898 x1193 x1194 b1199) ?_ (fun hJ1200 => ?_)
        · clear H hI
          rintro b1199 _ _ ⟨_, rfl, hI⟩ H
          replace H := cond_some H
          rcases H with ⟨hc1201, H⟩ | ⟨hc1201, H⟩
          · refine gt hc1201 (go_skip (go_seq ?_))
            refine go_block_join (o := o3) (fun x1225 f w => ∃ (j : Nat → Value), f = updL j [(0, vP b0z 0), (1, vI a1), (6, vI x1225), (13, vS A265 y263.length c266), (14, vS A1037 ((l894 ++ ([x893] : List Int)).length) c1038), (15, vB b897), (16, vI x898), (17, vI x893), (18, vI x1194)] ∧ Inv M w [.row (Ty.flat 2 (fun x : Int × Int => [vI x.1, vI x.2]) (fun _ => rfl) (fun _ => oneAll rfl)) 88 A265 y263.length c266 y263, .row (tInt .i64) 3 A1037 ((l894 ++ ([x893] : List Int)).length) c1038 (l894 ++ ([x893] : List Int))]) (fun x1225 => assizeref07ztable_from.j7 x1194 x1225) ?_ (fun hJ1226 => ?_)
            · clear H hI
              rintro x1225 _ _ ⟨_, rfl, hI⟩ H
              refine rp 3 ?_
              exact hin3 _ (Option.some.inj H).symm _ _ ⟨_, at_, hI⟩
            · refine go_seq (r_in (bp 0 3 ?_))
              replace H := bind_some H
              obtain ⟨y1229, hy1230, H⟩ := H
              refine oe 3 rfl ?_
              refine ec (enter38 _) (assizeref07ztable_step_calls b0z a0 A0z0 c0z0 A0z1 c0z1 x893 x1194 (memOf _) _ (Inv.start _) (Lies.mono hb0z hI.fix) (hI.rd hr0z0) hl0z0 (hI.rd hr0z1) hl0z1 _ hy1230) ?_
              rintro _ _ ⟨rfl, hI'⟩
              replace hI := hI.call0 hI'
              clear hI'
              refine ⟨_, rfl, ?_⟩
              refine bp 4 5 (ro (go_seq ?_))
              refine go_seq_join (o := o3) (fun b1237 f w => ∃ (j : Nat → Value), f = updL j [(0, vP b0z 0), (1, vI a1), (6, vI x1193), (13, vS A265 y263.length c266), (14, vS A1037 ((l894 ++ ([x893] : List Int)).length) c1038), (15, vB b897), (16, vI x898), (17, vI x893), (18, vI x1194), (20, vB y1229.2), (110, vB b1237)] ∧ Inv M w [.row (Ty.flat 2 (fun x : Int × Int => [vI x.1, vI x.2]) (fun _ => rfl) (fun _ => oneAll rfl)) 88 A265 y263.length c266 y263, .row (tInt .i64) 3 A1037 ((l894 ++ ([x893] : List Int)).length) c1038 (l894 ++ ([x893] : List Int))]) (fun b1237 => assizeref07ztable_from.j8 y263 x898 x1193 x1194 y1229 b1237) ?_ (fun hJ1238 => ?_)
              · clear H hI
                rintro b1237 _ _ ⟨_, rfl, hI⟩ H
                replace H := cond_some H
                rcases H with ⟨hc1239, H⟩ | ⟨hc1239, H⟩
                · refine gt hc1239 ?_
                  refine go_exit rfl ?_
                  exact hJ1226 x1193 _ _ ⟨_, at_, hI⟩ H
                · refine ge hc1239 (go_skip (go_seq (r_in ?_)))
                  replace H := must_some H
                  obtain ⟨g1242, H⟩ := H
                  obtain ⟨b1243, rfl⟩ := hI.rowAt 0 rfl g1242
                  refine bx 0 [.p, .p, .x, .p, .l 0 0, .p] (gA ((rdS.flook (hI.row 0 rfl) (hI.rowlen 0 rfl) g1242).ok)) _ (bZ g1242) (ro ?_)
                  refine go_seq_join (o := o3) (fun x1245 f w => ∃ (j : Nat → Value), f = updL j [(0, vP b0z 0), (1, vI a1), (6, vI x1193), (13, vS (some ⟨b1243, 0, none⟩) y263.length c266), (14, vS A1037 ((l894 ++ ([x893] : List Int)).length) c1038), (15, vB b897), (16, vI x898), (17, vI x893), (18, vI x1194), (21, vI x1245)] ∧ Inv M w [.row (Ty.flat 2 (fun x : Int × Int => [vI x.1, vI x.2]) (fun _ => rfl) (fun _ => oneAll rfl)) 88 (some ⟨b1243, 0, none⟩) y263.length c266 y263, .row (tInt .i64) 3 A1037 ((l894 ++ ([x893] : List Int)).length) c1038 (l894 ++ ([x893] : List Int))]) (fun x1245 => assizeref07ztable_from.j9 x898 x1193 x1194 x1245) ?_ (fun hJ1246 => ?_)
                  · clear H hI
                    rintro x1245 _ _ ⟨_, rfl, hI⟩ H
                    refine go_seq (rp 4 ?_)
                    replace H := cond_some H
                    rcases H with ⟨hc1247, H⟩ | ⟨hc1247, H⟩
                    · refine gt hc1247 (rp 2 (go_inBlock ?_))
                      exact hJ1226 x1194 _ _ ⟨_, at_, hI⟩ H
                    · refine ge hc1247 (go_skip (go_inBlock ?_))
                      exact hJ1226 x1193 _ _ ⟨_, at_, hI⟩ H
                  · refine go_seq (rp 1 ?_)
                    replace H := cond_some H
                    rcases H with ⟨hc1248, H⟩ | ⟨hc1248, H⟩
                    · refine gt hc1248 (r_in (bx 0 [.p, .p, .x, .p, .l 0 1, .p] (gA ((rdS.flook (hI.row 0 rfl) (hI.rowlen 0 rfl) g1242).ok)) _ (bZ g1242) (ro ?_)))
                      exact hJ1246 ((idx y263 x1194).2) _ _ ⟨_, at_, hI⟩ H
                    · refine ge hc1248 (go_skip ?_)
                      exact hJ1246 ((idx y263 x1194).1) _ _ ⟨_, at_, hI⟩ H
              · refine r_in ?_
                replace H := cond_some H
                rcases H with ⟨hc1249, H⟩ | ⟨hc1249, H⟩
                · refine bx 0 [.p, .p, .c true, .p, .p, .p, .p, .p] gO _ (bZ (bndEq hc1249)) (ro ?_)
                  exact hJ1238 true _ _ ⟨_, at_, hI⟩ H
                · replace H := cond_some H
                  rcases H with ⟨hc1250, H⟩ | ⟨hc1250, H⟩
                  · refine bx 0 [.p, .p, .c false, .p, .c true, .p, .p, .p] gO _ (bC (bndEq hc1249) (bZ (bndEq hc1250))) (ro ?_)
                    exact hJ1238 b897 _ _ ⟨_, at_, hI⟩ H
                  · refine bx 0 [.p, .p, .c false, .p, .c false, .p, .p, .p] gO _ (bC (bndEq hc1249) (bZ (bndEq hc1250))) (ro ?_)
                    exact hJ1238 false _ _ ⟨_, at_, hI⟩ H
          · refine ge hc1201 ?_
            refine go_exit rfl ?_
            refine r_in (bp 0 3 ?_)
            replace H := bind_some H
            obtain ⟨y1251, hy1252, H⟩ := H
            refine oe 3 rfl ?_
            refine ec (enter38 _) (assizeref07ztable_step_calls b0z a0 A0z0 c0z0 A0z1 c0z1 x893 x1193 (memOf _) _ (Inv.start _) (Lies.mono hb0z hI.fix) (hI.rd hr0z0) hl0z0 (hI.rd hr0z1) hl0z1 _ hy1252) ?_
            rintro _ _ ⟨rfl, hI'⟩
            replace hI := hI.call0 hI'
            clear hI'
            refine ⟨_, rfl, ?_⟩
            refine bp 4 4 (ro (go_inBlock (rp 3 ?_)))
            replace H := out_some H
            obtain ⟨_, H, he3⟩ := H
            have he := (hout3 _ he3).symm
            subst he
            exact hin2 _ (Option.some.inj H).symm _ _ ⟨_, A1037, c1038, at_, hI⟩
        · refine r_in ?_
          replace H := cond_some H
          rcases H with ⟨hc1253, H⟩ | ⟨hc1253, H⟩
          · refine bx 0 [.p, .p, .p, .p, .l 0 0, .p, .c true, .p, .p, .p] (gA (hI.lies hb0z)) _ (bZ (bndEq hc1253)) (ro ?_)
            exact hJ1200 (decide (x1193 < 0)) _ _ ⟨_, at_, hI⟩ H
          · refine bx 0 [.p, .p, .p, .p, .l 0 0, .p, .c false, .p, .p, .p] (gA (hI.lies hb0z)) _ (bZ (bndEq hc1253)) (ro ?_)
            exact hJ1200 false _ _ ⟨_, at_, hI⟩ H
      · refine ge hc900 ?_
        refine go_exit rfl ?_
        refine go_seq (rp 2 ?_)
        replace H := out_some H
        obtain ⟨_, H, he2⟩ := H
        have he := (hout2 _ he2).symm
        subst he
        replace H := out_some H
        obtain ⟨_, H, he1⟩ := H
        have he := (hout1 _ he1).symm
        subst he
        replace H := Option.some.inj H
        subst H
        exact gr Try.func32 ⟨A895, c896, rfl, hI.pick [1] (by decide) rfl⟩

/-! ### assizeref07zSpaced -/
theorem enter16 (a : Array Value) : Sem.pureRun Try.prog (callFunc 16 a) = some (.enter 16 a) := by kernel_rfl
theorem assizeref07zSpaced_calls (a0 : Graph) (A0z0 : Option Addr) (c0z0 : Nat) (a1 : Int) (a2 : Int) (M : Mem) (w : World) (hI : Inv M w []) (hr0z0 : rdS kEdge M.blk A0z0 a0.Edges) (hl0z0 : a0.Edges.length ≤ c0z0) (r : List Edge × Int) (H : assizeref07zSpaced a0 a1 a2 = some r) :
    Calls Try.prog 16 #[.agg #[vI a0.N, vS A0z0 a0.Edges.length c0z0], vI a1, vI a2] w fun e w' => ∃ (A708 : Option Addr), ∃ (c709 : Nat), e = .returned (.tuple #[vS A708 r.1.length c709, vI r.2]) ∧ Inv M w' [.row kEdge 41 A708 r.1.length c709 r.1] := by
  refine cg Try.func16 ?_
  intro cs
  unfold assizeref07zSpaced at H
  refine go_seq (r_in (oe 0 rfl ?_))
  refine e_box 24 _ (.agg #[vI a0.N, vS A0z0 a0.Edges.length c0z0]) [vI a0.N, vS A0z0 a0.Edges.length c0z0] rfl (by kernel_rfl) rfl hI ?_
  clear hI
  intro b2 _ hI
  refine bp 1 2 (ro (go_seq (go_seq (r_in (bg 0 [.l 0 0] (gA (hI.grp 0 rfl)) ?_)))))
  replace H := bind_some H
  obtain ⟨y8, hy9, H⟩ := H
  refine oe 1 rfl ?_
  refine ec (enter26 _) (assizeref06zCheck_calls a0 A0z0 c0z0 (memOf _) _ (Inv.start _) (hI.rd hr0z0) hl0z0 _ hy9) ?_
  rintro _ _ ⟨rfl, hI'⟩
  replace hI := hI.call0 hI'
  clear hI'
  refine ⟨_, rfl, ?_⟩
  refine bp 2 1 (ro ?_)
  replace H := cond_some H
  rcases H with ⟨hc10, H⟩ | ⟨hc10, H⟩
  · refine gt hc10 (go_seq (rp 2 ?_))
    replace H := Option.some.inj H
    subst H
    exact gr Try.func16 ⟨none, 0, rfl, (hI.nilrow kEdge 41).pick [1] (by decide) rfl⟩
  · refine ge hc10 (go_skip (go_seq ?_))
    replace H := bind_some H
    obtain ⟨y20, hy21, H⟩ := H
    replace H := bind_some H
    obtain ⟨y24, hy25, H⟩ := H
    refine go_held (fun w => Inv M w [.blk b2 24 [vI a0.N, vS A0z0 a0.Edges.length c0z0]]) (by kernel_rfl) ?_
    replace hI := hI.drew'
    refine hg (n := 5) [(0, .p), (1, .l 0 0), (2, .l 0 0), (3, .p), (5, .l 0 0), (6, .p)] (fun _ hS => (gA (hS.grp 0 rfl))) hI ?_
    refine ho (n := 4) 4 rfl (ec (enter27 _) (assizeref06zSteps_calls a0 A0z0 c0z0 a1 (memOf _) _ (Inv.start _) (hI.rd hr0z0) hl0z0 _ hy21) ?_)
    rintro _ _ ⟨A22, c23, rfl, hI'⟩
    replace hI := hI.call0 hI'
    clear hI'
    refine ⟨_, rfl, ?_⟩
    refine ⟨(hI.pk [0]), ?_⟩
    refine ho (n := 3) 7 rfl (ec (enter27 _) (assizeref06zSteps_calls a0 A0z0 c0z0 a2 (memOf _) _ (Inv.start _) (hI.rd hr0z0) hl0z0 _ hy25) ?_)
    rintro _ _ ⟨A26, c27, rfl, hI'⟩
    replace hI := hI.call0 hI'
    clear hI'
    refine ⟨_, rfl, ?_⟩
    refine ⟨(hI.pk [0]), ?_⟩
    refine hg (n := 2) [(8, .p)] (fun _ hS => gO) (hI.pk [0]) ?_
    refine ho (n := 1) 9 rfl (e_box 60 _ (.agg #[vI a0.N, vS A22 y20.length c23, vS A26 y24.length c27]) [vI a0.N, vS A22 y20.length c23, vS A26 y24.length c27] rfl (by kernel_rfl) rfl hI ?_)
    clear hI
    intro b28 _ hI
    refine ⟨(hI.pk [0]), ?_⟩
    refine hg (n := 0) [(10, .p)] (fun _ hS => gO) (hI.pk [0]) (hd (go_seq (rp 1 (go_seq (go_seq (rp 1 (go_block ?_)))))))
    refine go_iter (assizeref07zSpaced.s1 a0 a1 a2 y20 y24) (fun (l193, x196) f w => ∃ (j : Nat → Value) (A194 : Option Addr) (c195 : Nat), f = updL j [(1, vI a1), (2, vI a2), (3, vP b2 0), (8, vP b28 0), (9, vS A194 l193.length c195), (10, vI x196)] ∧ Inv M w [.blk b2 24 [vI a0.N, vS A0z0 a0.Edges.length c0z0], .blk b28 60 [vI a0.N, vS A22 y20.length c23, vS A26 y24.length c27], .row (tSlice 4 tBool) 61 A22 y20.length c23 y20, .row (tSlice 4 tBool) 61 A26 y24.length c27 y24, .row (tInt .i64) 3 A194 l193.length c195 l193]) H ⟨_, none, 0, at_, (hI.nilrow (tInt .i64) 3).pick [0, 3, 1, 2, 4] (by decide) rfl⟩ ?_
    clear H hI
    rintro ⟨l193, x196⟩ _ _ o1 H ⟨_, A194, c195, rfl, hI⟩ hin1 hout1
    refine go_seq (go_seq (rg [.p, .p, .l 0 0, .p] (gA (hI.grp 0 rfl)) ?_))
    replace H := cond_some H
    rcases H with ⟨hc198, H⟩ | ⟨hc198, H⟩
    · refine gt hc198 (go_skip (go_seq ?_))
      refine go_block_join (o := o1) (fun l218 f w => ∃ (j : Nat → Value) (A219 : Option Addr) (c220 : Nat), f = updL j [(1, vI a1), (2, vI a2), (3, vP b2 0), (8, vP b28 0), (9, vS A219 l218.length c220), (10, vI x196)] ∧ Inv M w [.blk b2 24 [vI a0.N, vS A0z0 a0.Edges.length c0z0], .blk b28 60 [vI a0.N, vS A22 y20.length c23, vS A26 y24.length c27], .row (tSlice 4 tBool) 61 A22 y20.length c23 y20, .row (tSlice 4 tBool) 61 A26 y24.length c27 y24, .row (tInt .i64) 3 A219 l218.length c220 l218]) (fun l218 => assizeref07zSpaced.j2 x196 l218) ?_ (fun hJ221 => ?_)
      · clear H hI
        rintro l218 _ _ ⟨_, A219, c220, rfl, hI⟩ H
        refine rp 3 ?_
        exact hin1 _ (Option.some.inj H).symm _ _ ⟨_, A219, c220, at_, hI⟩
      · refine go_seq (r_in (bp 0 2 ?_))
        replace H := bind_some H
        obtain ⟨y226, hy227, H⟩ := H
        refine oe 2 rfl ?_
        refine ec (enter32 _) (assizeref07ztable_from_calls b28 (⟨a0.N, y20, y24⟩ : Assizeref07Table) A22 c23 A26 c27 x196 (memOf _) _ (Inv.start _) (Grp.lies (hI.grp 1 rfl)) (hI.row 2 rfl) (hI.rowle 2 rfl) (hI.row 3 rfl) (hI.rowle 3 rfl) _ hy227) ?_
        rintro _ _ ⟨A228, c229, rfl, hI'⟩
        replace hI := hI.call0 hI'
        clear hI'
        refine ⟨_, rfl, ?_⟩
        refine bp 3 1 (ro ?_)
        refine go_seq_join (o := o1) (fun b232 f w => ∃ (j : Nat → Value), f = updL j [(1, vI a1), (2, vI a2), (3, vP b2 0), (8, vP b28 0), (9, vS A194 l193.length c195), (10, vI x196), (11, vS A228 y226.length c229), (52, vB b232)] ∧ Inv M w [.blk b2 24 [vI a0.N, vS A0z0 a0.Edges.length c0z0], .blk b28 60 [vI a0.N, vS A22 y20.length c23, vS A26 y24.length c27], .row (tSlice 4 tBool) 61 A22 y20.length c23 y20, .row (tSlice 4 tBool) 61 A26 y24.length c27 y24, .row (tInt .i64) 3 A194 l193.length c195 l193, .row (tInt .i64) 3 A228 y226.length c229 y226]) (fun b232 => assizeref07zSpaced.j3 l193 x196 y226 b232) ?_ (fun hJ233 => ?_)
        · clear H hI
          rintro b232 _ _ ⟨_, rfl, hI⟩ H
          replace H := cond_some H
          rcases H with ⟨hc234, H⟩ | ⟨hc234, H⟩
          · refine gt hc234 (rp 2 (go_inBlock ?_))
            exact hJ221 y226 _ _ ⟨_, A228, c229, at_, hI.pick [0, 1, 2, 3, 5] (by decide) rfl⟩ H
          · refine ge hc234 (go_skip (go_inBlock ?_))
            exact hJ221 l193 _ _ ⟨_, A194, c195, at_, hI.pick [0, 1, 2, 3, 4] (by decide) rfl⟩ H
        · refine r_in ?_
          replace H := cond_some H
          rcases H with ⟨hc235, H⟩ | ⟨hc235, H⟩
          · replace H := cond_some H
            rcases H with ⟨hc236, H⟩ | ⟨hc236, H⟩
            · refine bx 0 [.p, .p, .p, .c true, .p, .p, .p, .c true, .p, .p, .p, .p, .p, .p, .p] gO _ (bC (bndEq hc235) (bZ (bndEq hc236))) (ro ?_)
              exact hJ233 true _ _ ⟨_, at_, hI⟩ H
            · refine bx 0 [.p, .p, .p, .c true, .p, .p, .p, .c false, .p, .p, .p, .p, .p, .p, .p] gO _ (bC (bndEq hc235) (bZ (bndEq hc236))) (ro ?_)
              exact hJ233 (decide ((y226.length : Int) < (l193.length : Int))) _ _ ⟨_, at_, hI⟩ H
          · refine bx 0 [.p, .p, .p, .c false, .p, .p, .p, .p, .p, .p, .p, .p, .p, .p, .p] gO _ (bZ (bndEq hc235)) (ro ?_)
            exact hJ233 false _ _ ⟨_, at_, hI⟩ H
    · refine ge hc198 ?_
      refine go_exit rfl ?_
      refine go_seq (rp 1 (go_seq (go_seq (rp 1 (go_block ?_)))))
      refine go_iter (assizeref07zSpaced.s4 a0 a1 a2 y20 l193) (fun (l585, x588) f w => ∃ (j : Nat → Value) (A586 : Option Addr) (c587 : Nat), f = updL j [(1, vI a1), (2, vI a2), (3, vP b2 0), (8, vP b28 0), (9, vS A194 l193.length c195), (12, vS A586 l585.length c587), (13, vI x588)] ∧ Inv M w [.blk b2 24 [vI a0.N, vS A0z0 a0.Edges.length c0z0], .blk b28 60 [vI a0.N, vS A22 y20.length c23, vS A26 y24.length c27], .row (tSlice 4 tBool) 61 A22 y20.length c23 y20, .row (tSlice 4 tBool) 61 A26 y24.length c27 y24, .row (tInt .i64) 3 A194 l193.length c195 l193, .row kEdge 41 A586 l585.length c587 l585]) H ⟨_, none, 0, at_, (hI.nilrow kEdge 41)⟩ ?_
      clear H hI
      rintro ⟨l585, x588⟩ _ _ o2 H ⟨_, A586, c587, rfl, hI⟩ hin2 hout2
      refine go_seq (go_seq (rp 4 ?_))
      replace H := cond_some H
      rcases H with ⟨hc590, H⟩ | ⟨hc590, H⟩
      · refine gt hc590 (go_skip (go_seq ?_))
        refine go_block_join (o := o2) (fun l656 f w => ∃ (j : Nat → Value) (A657 : Option Addr) (c658 : Nat), f = updL j [(1, vI a1), (2, vI a2), (3, vP b2 0), (8, vP b28 0), (9, vS A194 l193.length c195), (12, vS A657 l656.length c658), (13, vI x588)] ∧ Inv M w [.blk b2 24 [vI a0.N, vS A0z0 a0.Edges.length c0z0], .blk b28 60 [vI a0.N, vS A22 y20.length c23, vS A26 y24.length c27], .row (tSlice 4 tBool) 61 A22 y20.length c23 y20, .row (tSlice 4 tBool) 61 A26 y24.length c27 y24, .row (tInt .i64) 3 A194 l193.length c195 l193, .row kEdge 41 A657 l656.length c658 l656]) (fun l656 => assizeref07zSpaced.j5 x588 l656) ?_ (fun hJ659 => ?_)
        · clear H hI
          rintro l656 _ _ ⟨_, A657, c658, rfl, hI⟩ H
          refine rp 3 ?_
          exact hin2 _ (Option.some.inj H).symm _ _ ⟨_, A657, c658, at_, hI⟩
        · refine go_seq ?_
          replace H := must_some H
          obtain ⟨g664, H⟩ := H
          obtain ⟨b665, rfl⟩ := hI.rowAt 4 rfl g664
          replace H := must_some H
          obtain ⟨g666, H⟩ := H
          replace H := must_some H
          obtain ⟨g667, H⟩ := H
          refine dx [.p, .p, .x, .l 0 0, .p, .p, .p, .p, .p, .x, .x, .l 1 0, .p, .p] (gB ((rdS.flook (hI.row 4 rfl) (hI.rowlen 4 rfl) g664).ok) ((rdS.flook (hI.row 4 rfl) (hI.rowlen 4 rfl) g667).ok)) _ (bC g664 (bC (ndEq g666) (bZ g667))) hI ?_
          clear hI
          intro _ hI
          refine go_seq (r_in ?_)
          replace H := must_some H
          obtain ⟨g680, H⟩ := H
          obtain ⟨b681, rfl⟩ := hI.rowAt 2 rfl g680
          obtain ⟨cs684, hk683, hg682⟩ := rdS.look (hI.row 2 rfl) (hI.rowlen 2 rfl) g680
          obtain ⟨A685, c686, rfl, hl688, hr687⟩ := hk683
          replace H := must_some H
          obtain ⟨g689, H⟩ := H
          obtain ⟨b690, q691, rfl, _⟩ := rdS.fopen hr687 rfl g689
          refine bx 0 [.p, .p, .p, .l 0 1, .p, .x, .l 1 0, .p, .x, .l 2 0] (gC (hI.grp 1 rfl) hg682.ok ((rdS.flook hr687 rfl g689).ok)) _ (bC g680 (bZ g689)) (ro ?_)
          replace H := cond_some H
          rcases H with ⟨hc692, H⟩ | ⟨hc692, H⟩
          · refine gt hc692 (r_in (bg 0 [.p, .l 0 0, .p, .p, .p] (gA (hI.grp 0 rfl)) ?_))
            replace H := bind_some H
            obtain ⟨y693, hy694, H⟩ := H
            refine oe 5 rfl ?_
            refine ec (enter29 _) (assizeref07zfirst_calls a0 A0z0 c0z0 a1 (idx l193 x588) (idx l193 ((w64 (x588 + 1)).tmod (l193.length : Int))) (memOf _) _ (Inv.start _) (hI.rd hr0z0) hl0z0 _ hy694) ?_
            rintro _ _ ⟨rfl, hI'⟩
            replace hI := hI.call0 hI'
            clear hI'
            refine ⟨_, rfl, ?_⟩
            refine oe 6 rfl ?_
            refine e_partsS 22 41 1 _ _ _ #[vI y693.From, vI y693.To, vI y693.Kind, vI y693.Key] [vI y693.From, vI y693.To, vI y693.Kind, vI y693.Key] rfl rfl rfl rfl (by kernel_rfl) (by kernel_rfl) (by kernel_rfl) (by kernel_rfl) hI ?_
            clear hI
            intro b695 _ hs696 hI
            replace H := must_some H
            obtain ⟨g697, H⟩ := H
            refine oe 7 rfl ?_
            refine e_append kEdge 22 0 41 _ _ _ _ A586 l585.length c587 l585 ([y693] : List Edge) b695 0 1 1 [vI y693.From, vI y693.To, vI y693.Kind, vI y693.Key] 5 [] [0, 1, 2, 3, 4, 6] [] [.blk b2 24 [vI a0.N, vS A0z0 a0.Edges.length c0z0], .blk b28 60 [vI a0.N, vS (some ⟨b681, 0, none⟩) y20.length c23, vS A26 y24.length c27], .row (tSlice 4 tBool) 61 (some ⟨b681, 0, none⟩) y20.length c23 y20, .row (tSlice 4 tBool) 61 A26 y24.length c27 y24, .row (tInt .i64) 3 (some ⟨b665, 0, none⟩) l193.length c195 l193, .blk b695 41 [vI y693.From, vI y693.To, vI y693.Kind, vI y693.Key]] rfl (by kernel_rfl) (by kernel_rfl) rfl rfl rfl rfl rfl (by kernel_rfl) hI (by decide) rfl rfl rfl (hI.grp 6 rfl) g697 (mks_cons (mk_flat (k := kEdge) y693 [vI y693.From, vI y693.To, vI y693.Kind, vI y693.Key] rfl) mks_nil) ?_
            clear hI
            intro A698 c699 _ hI
            replace hI := hI.pick (L' := [.row kEdge 41 A698 ((l585 ++ ([y693] : List Edge)).length) c699 (l585 ++ ([y693] : List Edge)), .blk b2 24 [vI a0.N, vS A0z0 a0.Edges.length c0z0], .blk b28 60 [vI a0.N, vS (some ⟨b681, 0, none⟩) y20.length c23, vS A26 y24.length c27], .row (tSlice 4 tBool) 61 (some ⟨b681, 0, none⟩) y20.length c23 y20, .row (tSlice 4 tBool) 61 A26 y24.length c27 y24, .row (tInt .i64) 3 (some ⟨b665, 0, none⟩) l193.length c195 l193]) [0, 1, 2, 3, 4, 5] (by decide) rfl
            refine bp 8 1 (ro (go_inBlock ?_))
            exact hJ659 (l585 ++ ([y693] : List Edge)) _ _ ⟨_, A698, c699, at_, hI.pick [1, 2, 3, 4, 5, 0] (by decide) rfl⟩ H
          · refine ge hc692 (r_in (bg 0 [.p, .l 0 0, .p, .p, .p] (gA (hI.grp 0 rfl)) ?_))
            replace H := bind_some H
            obtain ⟨y700, hy701, H⟩ := H
            refine oe 5 rfl ?_
            refine ec (enter29 _) (assizeref07zfirst_calls a0 A0z0 c0z0 a2 (idx l193 x588) (idx l193 ((w64 (x588 + 1)).tmod (l193.length : Int))) (memOf _) _ (Inv.start _) (hI.rd hr0z0) hl0z0 _ hy701) ?_
            rintro _ _ ⟨rfl, hI'⟩
            replace hI := hI.call0 hI'
            clear hI'
            refine ⟨_, rfl, ?_⟩
            refine oe 6 rfl ?_
            refine e_partsS 22 41 1 _ _ _ #[vI y700.From, vI y700.To, vI y700.Kind, vI y700.Key] [vI y700.From, vI y700.To, vI y700.Kind, vI y700.Key] rfl rfl rfl rfl (by kernel_rfl) (by kernel_rfl) (by kernel_rfl) (by kernel_rfl) hI ?_
            clear hI
            intro b702 _ hs703 hI
            replace H := must_some H
            obtain ⟨g704, H⟩ := H
            refine oe 7 rfl ?_
            refine e_append kEdge 22 0 41 _ _ _ _ A586 l585.length c587 l585 ([y700] : List Edge) b702 0 1 1 [vI y700.From, vI y700.To, vI y700.Kind, vI y700.Key] 5 [] [0, 1, 2, 3, 4, 6] [] [.blk b2 24 [vI a0.N, vS A0z0 a0.Edges.length c0z0], .blk b28 60 [vI a0.N, vS (some ⟨b681, 0, none⟩) y20.length c23, vS A26 y24.length c27], .row (tSlice 4 tBool) 61 (some ⟨b681, 0, none⟩) y20.length c23 y20, .row (tSlice 4 tBool) 61 A26 y24.length c27 y24, .row (tInt .i64) 3 (some ⟨b665, 0, none⟩) l193.length c195 l193, .blk b702 41 [vI y700.From, vI y700.To, vI y700.Kind, vI y700.Key]] rfl (by kernel_rfl) (by kernel_rfl) rfl rfl rfl rfl rfl (by kernel_rfl) hI (by decide) rfl rfl rfl (hI.grp 6 rfl) g704 (mks_cons (mk_flat (k := kEdge) y700 [vI y700.From, vI y700.To, vI y700.Kind, vI y700.Key] rfl) mks_nil) ?_
            clear hI
            intro A705 c706 _ hI
            replace hI := hI.pick (L' := [.row kEdge 41 A705 ((l585 ++ ([y700] : List Edge)).length) c706 (l585 ++ ([y700] : List Edge)), .blk b2 24 [vI a0.N, vS A0z0 a0.Edges.length c0z0], .blk b28 60 [vI a0.N, vS (some ⟨b681, 0, none⟩) y20.length c23, vS A26 y24.length c27], .row (tSlice 4 tBool) 61 (some ⟨b681, 0, none⟩) y20.length c23 y20, .row (tSlice 4 tBool) 61 A26 y24.length c27 y24, .row (tInt .i64) 3 (some ⟨b665, 0, none⟩) l193.length c195 l193]) [0, 1, 2, 3, 4, 5] (by decide) rfl
            refine bp 8 1 (ro (go_inBlock ?_))
            exact hJ659 (l585 ++ ([y700] : List Edge)) _ _ ⟨_, A705, c706, at_, hI.pick [1, 2, 3, 4, 5, 0] (by decide) rfl⟩ H
      · refine ge hc590 ?_
        refine go_exit rfl ?_
        refine go_seq (rp 3 ?_)
        replace H := out_some H
        obtain ⟨_, H, he2⟩ := H
        have he := (hout2 _ he2).symm
        subst he
        replace H := out_some H
        obtain ⟨_, H, he1⟩ := H
        have he := (hout1 _ he1).symm
        subst he
        replace H := Option.some.inj H
        subst H
        exact gr Try.func16 ⟨A586, c587, rfl, hI.pick [5] (by decide) rfl⟩

/-! ### assizeref07zPlain -/
theorem enter11 (a : Array Value) : Sem.pureRun Try.prog (callFunc 11 a) = some (.enter 11 a) := by kernel_rfl
theorem assizeref07zPlain_calls (a0 : Graph) (A0z0 : Option Addr) (c0z0 : Nat) (a1 : Int) (M : Mem) (w : World) (hI : Inv M w []) (hr0z0 : rdS kEdge M.blk A0z0 a0.Edges) (hl0z0 : a0.Edges.length ≤ c0z0) (r : List Edge × Int) (H : assizeref07zPlain a0 a1 = some r) :
    Calls Try.prog 11 #[.agg #[vI a0.N, vS A0z0 a0.Edges.length c0z0], vI a1] w fun e w' => ∃ (A12 : Option Addr), ∃ (c13 : Nat), e = .returned (.tuple #[vS A12 r.1.length c13, vI r.2]) ∧ Inv M w' [.row kEdge 41 A12 r.1.length c13 r.1] := by
  refine cg Try.func11 ?_
  intro cs
  unfold assizeref07zPlain at H
  refine go_seq (r_in (oe 0 rfl ?_))
  refine e_box 24 _ (.agg #[vI a0.N, vS A0z0 a0.Edges.length c0z0]) [vI a0.N, vS A0z0 a0.Edges.length c0z0] rfl (by kernel_rfl) rfl hI ?_
  clear hI
  intro b2 _ hI
  refine bp 1 2 (ro (go_seq (r_in (bg 0 [.l 0 0, .p] (gA (hI.grp 0 rfl)) ?_))))
  replace H := bind_some H
  obtain ⟨y7, hy8, H⟩ := H
  refine oe 2 rfl ?_
  refine ec (enter16 _) (assizeref07zSpaced_calls a0 A0z0 c0z0 a1 0 (memOf _) _ (Inv.start _) (hI.rd hr0z0) hl0z0 _ hy8) ?_
  rintro _ _ ⟨A9, c10, rfl, hI'⟩
  replace hI := hI.call0 hI'
  clear hI'
  refine ⟨_, rfl, ?_⟩
  refine bp 3 4 (ro ?_)
  replace H := Option.some.inj H
  subst H
  exact gr Try.func11 ⟨A9, c10, rfl, hI.pick [1] (by decide) rfl⟩

/-! ### assizeref06zSameEdges -/
theorem enter12 (a : Array Value) : Sem.pureRun Try.prog (callFunc 12 a) = some (.enter 12 a) := by kernel_rfl
theorem assizeref06zSameEdges_calls (A0z : Option Addr) (c0z : Nat) (a0 : List Edge) (A1z : Option Addr) (c1z : Nat) (a1 : List Edge) (M : Mem) (w : World) (hI : Inv M w []) (hr0z : rdS kEdge M.blk A0z a0) (hl0z : a0.length ≤ c0z) (hr1z : rdS kEdge M.blk A1z a1) (hl1z : a1.length ≤ c1z) (r : Bool) (H : assizeref06zSameEdges a0 a1 = some r) :
    Calls Try.prog 12 #[vS A0z a0.length c0z, vS A1z a1.length c1z] w fun e w' => e = .returned (vB r) ∧ Inv M w' [] := by
  refine cg Try.func12 ?_
  intro cs
  unfold assizeref06zSameEdges at H
  refine go_seq (rp 1 (go_seq (go_seq (rp 5 ?_))))
  replace H := cond_some H
  rcases H with ⟨hc2, H⟩ | ⟨hc2, H⟩
  · refine gt hc2 (go_seq (rp 1 ?_))
    replace H := Option.some.inj H
    subst H
    exact gr Try.func12 ⟨rfl, hI⟩
  · refine ge hc2 (go_skip (go_seq (go_seq (rp 1 (go_block ?_)))))
    refine go_iter (assizeref06zSameEdges.s1 a0 a1) (fun x84 f w => ∃ (j : Nat → Value), f = updL j [(0, vS A0z a0.length c0z), (1, vS A1z a1.length c1z), (5, vI x84)] ∧ Inv M w []) H ⟨_, at_, hI⟩ ?_
    clear H hI
    rintro x84 _ _ o1 H ⟨_, rfl, hI⟩ hin1 hout1
    refine go_seq (go_seq (rp 4 ?_))
    replace H := cond_some H
    rcases H with ⟨hc86, H⟩ | ⟨hc86, H⟩
    · refine gt hc86 (go_skip (go_seq (go_block (go_seq ?_))))
      replace H := must_some H
      obtain ⟨g107, H⟩ := H
      obtain ⟨b108, q109, rfl, _⟩ := rdS.fopen hr0z rfl g107
      replace H := must_some H
      obtain ⟨g110, H⟩ := H
      obtain ⟨b111, q112, rfl, _⟩ := rdS.fopen hr1z rfl g110
      refine dx [.p, .p, .x, .l 0 0, .p, .p, .x, .l 1 0, .x] (gB (hI.lies (rdS.flook hr0z rfl g107)) (hI.lies (rdS.flook hr1z rfl g110))) _ (bC g107 (bZ g110)) hI ?_
      clear hI
      intro _ hI
      replace H := cond_some H
      rcases H with ⟨hc113, H⟩ | ⟨hc113, H⟩
      · refine gt hc113 (go_seq (rp 1 ?_))
        replace H := out_some H
        obtain ⟨_, H, he1⟩ := H
        have he := (hout1 _ he1).symm
        subst he
        replace H := Option.some.inj H
        subst H
        exact gr Try.func12 ⟨rfl, hI⟩
      · refine ge hc113 (go_skip (go_inBlock (rp 3 ?_)))
        exact hin1 _ (Option.some.inj H).symm _ _ ⟨_, at_, hI⟩
    · refine ge hc86 ?_
      refine go_exit rfl ?_
      refine go_seq (rp 1 ?_)
      replace H := out_some H
      obtain ⟨_, H, he1⟩ := H
      have he := (hout1 _ he1).symm
      subst he
      replace H := Option.some.inj H
      subst H
      exact gr Try.func12 ⟨rfl, hI⟩

/-! ### assizeref07ztable_back -/
theorem enter28 (a : Array Value) : Sem.pureRun Try.prog (callFunc 28 a) = some (.enter 28 a) := by kernel_rfl
theorem assizeref07ztable_back_calls (b0z : Nat) (a0 : Assizeref07Table) (A0z0 : Option Addr) (c0z0 : Nat) (A0z1 : Option Addr) (c0z1 : Nat) (a1 : Int) (a2 : Int) (M : Mem) (w : World) (hI : Inv M w []) (hb0z : Lies M.blk (b0z, 0, [vI a0.n, vS A0z0 a0.d.length c0z0, vS A0z1 a0.r.length c0z1])) (hr0z0 : rdS (tSlice 4 tBool) M.blk A0z0 a0.d) (hl0z0 : a0.d.length ≤ c0z0) (hr0z1 : rdS (tSlice 4 tBool) M.blk A0z1 a0.r) (hl0z1 : a0.r.length ≤ c0z1) (r : List Int × Bool) (H : assizeref07ztable_back a0 a1 a2 = some r) :
    Calls Try.prog 28 #[vP b0z 0, vI a1, vI a2] w fun e w' => ∃ (A5714 : Option Addr), ∃ (c5715 : Nat), e = .returned (.tuple #[vS A5714 r.1.length c5715, vB r.2]) ∧ Inv M w' [.row (tInt .i64) 3 A5714 r.1.length c5715 r.1] := by
  refine cg Try.func28 ?_
  intro cs
  unfold assizeref07ztable_back at H
  refine go_seq (rp 2 (go_seq (r_in (bg 0 [.p, .p, .p, .l 0 0] (gA (hI.lies hb0z)) ?_))))
  replace H := must_some H
  obtain ⟨g3, H⟩ := H
  refine oe 4 rfl ?_
  refine e_make (tInt .i64) (default : Int) 46 3 _ _ _ (vI 0) a0.n rfl rfl rfl rfl rfl rfl (fun _ => rfl) (by kernel_rfl) (by kernel_rfl) g3 hI ?_
  clear hI
  intro b4 _ hI
  refine bp 5 1 (ro (go_seq (go_seq (rp 1 (go_block ?_)))))
  refine go_is 8 (vS (some ⟨b4, 0, none⟩) a0.n.toNat a0.n.toNat) (vS (some ⟨b4, 0, none⟩) ((List.replicate a0.n.toNat (default : Int)).length) a0.n.toNat) (by kernel_rfl) (by first | rfl | simp only [List.length_set, List.length_replicate, List.length_nil]) ?_
  replace hI := hI.renum 0 rfl
  refine go_iter (assizeref07ztable_back.s1 a0 a1 a2) (fun (l94, x97) f w => ∃ (j : Nat → Value) (A95 : Option Addr) (c96 : Nat), f = updL j [(0, vP b0z 0), (1, vI a1), (2, vI a2), (8, vS A95 l94.length c96), (9, vI x97)] ∧ Inv M w [.row (tInt .i64) 3 A95 l94.length c96 l94]) H ⟨_, (some ⟨b4, 0, none⟩), a0.n.toNat, at_, hI⟩ ?_
  clear H hI
  rintro ⟨l94, x97⟩ _ _ o1 H ⟨_, A95, c96, rfl, hI⟩ hin1 hout1
  refine go_seq (go_seq (rg [.p, .p, .p, .p, .l 0 0, .p] (gA (hI.lies hb0z)) ?_))
  replace H := cond_some H
  rcases H with ⟨hc99, H⟩ | ⟨hc99, H⟩
  · refine gt hc99 (go_skip (go_seq (go_block (r_in ?_))))
    replace H := must_some H
    obtain ⟨g104, H⟩ := H
    obtain ⟨b105, rfl⟩ := hI.rowAt 0 rfl g104
    refine bx 0 [.p, .p, .x] gO _ (bZ g104) (oe 3 rfl ?_)
    refine e_put 3 _ _ 0 b105 3 l94.length c96 l94 1048576 x97 0 (vI 1048576) rfl (by kernel_rfl) (by kernel_rfl) (by kernel_rfl) (by kernel_rfl) hI rfl g104 (by kernel_rfl) (by kernel_rfl) ?_
    clear hI
    intro _ hI
    refine ro (go_inBlock (rp 3 ?_))
    refine go_is 8 (vS (some ⟨b105, 0, none⟩) l94.length c96) (vS (some ⟨b105, 0, none⟩) ((l94.set x97.toNat 1048576).length) c96) (by kernel_rfl) (by first | rfl | simp only [List.length_set, List.length_replicate, List.length_nil]) ?_
    replace hI := hI.renum 0 rfl
    exact hin1 _ (Option.some.inj H).symm _ _ ⟨_, (some ⟨b105, 0, none⟩), c96, at_, hI⟩
  · refine ge hc99 ?_
    refine go_exit rfl ?_
    refine go_seq (r_in ?_)
    replace H := must_some H
    obtain ⟨g108, H⟩ := H
    obtain ⟨b109, rfl⟩ := hI.rowAt 0 rfl g108
    refine bx 0 [.p, .p, .x] gO _ (bZ g108) (oe 3 rfl ?_)
    refine e_put 3 _ _ 0 b109 3 l94.length c96 l94 0 a2 0 (vI 0) rfl (by kernel_rfl) (by kernel_rfl) (by kernel_rfl) (by kernel_rfl) hI rfl g108 (by kernel_rfl) (by kernel_rfl) ?_
    clear hI
    intro _ hI
    refine ro (go_seq (go_seq (rp 1 (go_block ?_))))
    refine go_is 8 (vS (some ⟨b109, 0, none⟩) l94.length c96) (vS (some ⟨b109, 0, none⟩) ((l94.set a2.toNat 0).length) c96) (by kernel_rfl) (by first | rfl | simp only [List.length_set, List.length_replicate, List.length_nil]) ?_
    replace hI := hI.renum 0 rfl
    refine go_iter (assizeref07ztable_back.s2 a0 a1 a2) (fun (l3081, b3084) f w => ∃ (j : Nat → Value) (A3082 : Option Addr) (c3083 : Nat), f = updL j [(0, vP b0z 0), (1, vI a1), (2, vI a2), (8, vS A3082 l3081.length c3083), (10, vB b3084)] ∧ Inv M w [.row (tInt .i64) 3 A3082 l3081.length c3083 l3081]) H ⟨_, (some ⟨b109, 0, none⟩), c96, at_, hI⟩ ?_
    clear H hI
    rintro ⟨l3081, b3084⟩ _ _ o2 H ⟨_, A3082, c3083, rfl, hI⟩ hin2 hout2
    refine go_seq (go_seq (rp 1 ?_))
    replace H := cond_some H
    rcases H with ⟨hc3086, H⟩ | ⟨hc3086, H⟩
    · refine gt hc3086 (go_skip (go_block (go_seq (rp 1 (go_seq (rp 1 (go_block ?_)))))))
      refine go_iter (assizeref07ztable_back.s3 a0) (fun (l4059, b4062, x4063) f w => ∃ (j : Nat → Value) (A4060 : Option Addr) (c4061 : Nat), f = updL j [(0, vP b0z 0), (1, vI a1), (2, vI a2), (8, vS A4060 l4059.length c4061), (10, vB b4062), (11, vI x4063)] ∧ Inv M w [.row (tInt .i64) 3 A4060 l4059.length c4061 l4059]) H ⟨_, A3082, c3083, at_, hI⟩ ?_
      clear H hI
      rintro ⟨l4059, b4062, x4063⟩ _ _ o3 H ⟨_, A4060, c4061, rfl, hI⟩ hin3 hout3
      refine go_seq (go_seq (rg [.p, .p, .p, .p, .l 0 0, .p] (gA (hI.lies hb0z)) ?_))
      replace H := cond_some H
      rcases H with ⟨hc4065, H⟩ | ⟨hc4065, H⟩
      · refine gt hc4065 (go_skip (go_seq (go_block (go_seq (rp 1 (go_block ?_))))))
        refine go_iter (assizeref07ztable_back.s4 a0 x4063) (fun (l4478, b4481, x4482) f w => ∃ (j : Nat → Value) (A4479 : Option Addr) (c4480 : Nat), f = updL j [(0, vP b0z 0), (1, vI a1), (2, vI a2), (8, vS A4479 l4478.length c4480), (10, vB b4481), (11, vI x4063), (12, vI x4482)] ∧ Inv M w [.row (tInt .i64) 3 A4479 l4478.length c4480 l4478]) H ⟨_, A4060, c4061, at_, hI⟩ ?_
        clear H hI
        rintro ⟨l4478, b4481, x4482⟩ _ _ o4 H ⟨_, A4479, c4480, rfl, hI⟩ hin4 hout4
        refine go_seq (go_seq (rg [.p, .p, .p, .p, .l 0 0, .p] (gA (hI.lies hb0z)) ?_))
        replace H := cond_some H
        rcases H with ⟨hc4484, H⟩ | ⟨hc4484, H⟩
        · refine gt hc4484 (go_skip (go_seq ?_))
          refine go_block_join (o := o4) (fun (l4533, b4536) f w => ∃ (j : Nat → Value) (A4534 : Option Addr) (c4535 : Nat), f = updL j [(0, vP b0z 0), (1, vI a1), (2, vI a2), (8, vS A4534 l4533.length c4535), (10, vB b4536), (11, vI x4063), (12, vI x4482)] ∧ Inv M w [.row (tInt .i64) 3 A4534 l4533.length c4535 l4533]) (fun (l4533, b4536) => assizeref07ztable_back.j5 x4482 l4533 b4536) ?_ (fun hJ4537 => ?_)
          · clear H hI
            rintro ⟨l4533, b4536⟩ _ _ ⟨_, A4534, c4535, rfl, hI⟩ H
            refine rp 3 ?_
            exact hin4 _ (Option.some.inj H).symm _ _ ⟨_, A4534, c4535, at_, hI⟩
          · refine go_seq_join (o := o4) (fun b4555 f w => ∃ (j : Nat → Value), f = updL j [(0, vP b0z 0), (1, vI a1), (2, vI a2), (8, vS A4479 l4478.length c4480), (10, vB b4481), (11, vI x4063), (12, vI x4482), (74, vB b4555)] ∧ Inv M w [.row (tInt .i64) 3 A4479 l4478.length c4480 l4478]) (fun b4555 => assizeref07ztable_back.j6 x4063 l4478 b4481 x4482 b4555) ?_ (fun hJ4556 => ?_)
            · clear H hI
              rintro b4555 _ _ ⟨_, rfl, hI⟩ H
              replace H := cond_some H
              rcases H with ⟨hc4557, H⟩ | ⟨hc4557, H⟩
              · refine gt hc4557 (go_seq (r_in ?_))
                replace H := must_some H
                obtain ⟨g4561, H⟩ := H
                obtain ⟨b4562, rfl⟩ := hI.rowAt 0 rfl g4561
                replace H := must_some H
                obtain ⟨g4563, H⟩ := H
                refine bx 0 [.p, .p, .p, .p, .x, .l 0 0, .p, .x] (gA ((rdS.flook (hI.row 0 rfl) (hI.rowlen 0 rfl) g4561).ok)) _ (bC g4561 (bZ g4563)) (oe 8 rfl ?_)
                refine e_put 3 _ _ 0 b4562 3 l4478.length c4480 l4478 (w64 ((idx l4478 x4482) + 1)) x4063 0 (vI (w64 ((idx l4478 x4482) + 1))) rfl (by kernel_rfl) (by kernel_rfl) (by kernel_rfl) (by kernel_rfl) hI rfl g4563 (by kernel_rfl) (by kernel_rfl) ?_
                clear hI
                intro _ hI
                refine ro (rp 1 (go_inBlock ?_))
                refine go_is 8 (vS (some ⟨b4562, 0, none⟩) l4478.length c4480) (vS (some ⟨b4562, 0, none⟩) ((l4478.set x4063.toNat (w64 ((idx l4478 x4482) + 1))).length) c4480) (by kernel_rfl) (by first | rfl | simp only [List.length_set, List.length_replicate, List.length_nil]) ?_
                replace hI := hI.renum 0 rfl
                exact hJ4537 (l4478.set x4063.toNat (w64 ((idx l4478 x4482) + 1)), true) _ _ ⟨_, (some ⟨b4562, 0, none⟩), c4480, at_, hI⟩ H
              · refine ge hc4557 (go_skip (go_inBlock ?_))
                exact hJ4537 (l4478, b4481) _ _ ⟨_, A4479, c4480, at_, hI⟩ H
            · replace H := must_some H
              obtain ⟨g4564, H⟩ := H
              obtain ⟨b4568, q4569, rfl, cs4567, hk4566, hg4565⟩ := rdS.open hr0z0 rfl g4564
              obtain ⟨A4570, c4571, rfl, hl4573, hr4572⟩ := hk4566
              replace H := must_some H
              obtain ⟨g4574, H⟩ := H
              obtain ⟨b4575, q4576, rfl, _⟩ := rdS.fopen hr4572 rfl g4574
              replace H := cond_some H
              rcases H with ⟨hc4577, H⟩ | ⟨hc4577, H⟩
              · replace H := must_some H
                obtain ⟨g4578, H⟩ := H
                obtain ⟨b4579, rfl⟩ := hI.rowAt 0 rfl g4578
                replace H := must_some H
                obtain ⟨g4580, H⟩ := H
                refine dx [.p, .p, .p, .l 0 1, .p, .x, .l 1 0, .p, .x, .l 2 0, .c true, .p, .p, .x, .l 3 0, .p, .p, .p, .x, .l 4 0, .p, .p] (gK (hI.lies hb0z) (gD (hI.lies hg4565) (hI.lies (rdS.flook hr4572 rfl g4574)) ((rdS.flook (hI.row 0 rfl) (hI.rowlen 0 rfl) g4578).ok) ((rdS.flook (hI.row 0 rfl) (hI.rowlen 0 rfl) g4580).ok))) _ (bC g4564 (bC g4574 (bC (bndEq hc4577) (bC g4578 (bZ g4580))))) hI ?_
                clear hI
                intro _ hI
                exact hJ4556 (decide (w64 ((idx l4478 x4482) + 1) < idx l4478 x4063)) _ _ ⟨_, at_, hI⟩ H
              · refine dx [.p, .p, .p, .l 0 1, .p, .x, .l 1 0, .p, .x, .l 2 0, .c false, .p, .p, .p, .p, .p, .p, .p, .p, .p, .p, .p] (gC (hI.lies hb0z) (hI.lies hg4565) (hI.lies (rdS.flook hr4572 rfl g4574))) _ (bC g4564 (bC g4574 (bZ (bndEq hc4577)))) hI ?_
                clear hI
                intro _ hI
                exact hJ4556 false _ _ ⟨_, at_, hI⟩ H
        · refine ge hc4484 ?_
          refine go_exit rfl ?_
          refine go_inBlock (rp 3 ?_)
          replace H := out_some H
          obtain ⟨_, H, he4⟩ := H
          have he := (hout4 _ he4).symm
          subst he
          exact hin3 _ (Option.some.inj H).symm _ _ ⟨_, A4479, c4480, at_, hI⟩
      · refine ge hc4065 ?_
        refine go_exit rfl ?_
        refine go_inBlock ?_
        replace H := out_some H
        obtain ⟨_, H, he3⟩ := H
        have he := (hout3 _ he3).symm
        subst he
        exact hin2 _ (Option.some.inj H).symm _ _ ⟨_, A4060, c4061, at_, hI⟩
    · refine ge hc3086 ?_
      refine go_exit rfl ?_
      refine go_seq (go_seq (r_in ?_))
      replace H := must_some H
      obtain ⟨g4586, H⟩ := H
      obtain ⟨b4587, rfl⟩ := hI.rowAt 0 rfl g4586
      refine bx 0 [.p, .p, .x, .l 0 0, .p] (gA ((rdS.flook (hI.row 0 rfl) (hI.rowlen 0 rfl) g4586).ok)) _ (bZ g4586) (ro ?_)
      replace H := cond_some H
      rcases H with ⟨hc4588, H⟩ | ⟨hc4588, H⟩
      · refine gt hc4588 (go_seq (rp 2 ?_))
        replace H := out_some H
        obtain ⟨_, H, he2⟩ := H
        have he := (hout2 _ he2).symm
        subst he
        replace H := out_some H
        obtain ⟨_, H, he1⟩ := H
        have he := (hout1 _ he1).symm
        subst he
        replace H := Option.some.inj H
        subst H
        exact gr Try.func28 ⟨none, 0, rfl, (hI.nilrow (tInt .i64) 3).pick [1] (by decide) rfl⟩
      · refine ge hc4588 (go_skip (go_seq (rp 1 (go_seq (go_seq (rp 2 (go_block ?_)))))))
        refine go_iter (assizeref07ztable_back.s7 a0 a2 l3081) (fun (l5320, x5323) f w => ∃ (j : Nat → Value) (A5321 : Option Addr) (c5322 : Nat), f = updL j [(0, vP b0z 0), (2, vI a2), (8, vS (some ⟨b4587, 0, none⟩) l3081.length c3083), (13, vS A5321 l5320.length c5322), (14, vI x5323)] ∧ Inv M w [.row (tInt .i64) 3 (some ⟨b4587, 0, none⟩) l3081.length c3083 l3081, .row (tInt .i64) 3 A5321 l5320.length c5322 l5320]) H ⟨_, none, 0, at_, (hI.nilrow (tInt .i64) 3)⟩ ?_
        clear H hI
        rintro ⟨l5320, x5323⟩ _ _ o3 H ⟨_, A5321, c5322, rfl, hI⟩ hin3 hout3
        refine go_seq (go_seq (rp 3 ?_))
        replace H := cond_some H
        rcases H with ⟨hc5325, H⟩ | ⟨hc5325, H⟩
        · refine gt hc5325 (go_skip (go_block (go_seq (r_in (bp 0 2 (oe 2 rfl ?_))))))
          refine e_partsS 46 3 1 _ _ _ #[vI x5323] [vI x5323] rfl rfl rfl rfl (by kernel_rfl) (by kernel_rfl) (by kernel_rfl) (by kernel_rfl) hI ?_
          clear hI
          intro b5414 _ hs5415 hI
          replace H := must_some H
          obtain ⟨g5416, H⟩ := H
          refine oe 3 rfl ?_
          refine e_append (tInt .i64) 46 0 3 _ _ _ _ A5321 l5320.length c5322 l5320 ([x5323] : List Int) b5414 0 1 1 [vI x5323] 1 [] [0, 2] [] [.row (tInt .i64) 3 (some ⟨b4587, 0, none⟩) l3081.length c3083 l3081, .blk b5414 3 [vI x5323]] rfl (by kernel_rfl) (by kernel_rfl) rfl rfl rfl rfl rfl (by kernel_rfl) hI (by decide) rfl rfl rfl (hI.grp 2 rfl) g5416 (mks_cons (mk_flat (k := (tInt .i64)) x5323 [vI x5323] rfl) mks_nil) ?_
          clear hI
          intro A5417 c5418 _ hI
          replace hI := hI.pick (L' := [.row (tInt .i64) 3 A5417 ((l5320 ++ ([x5323] : List Int)).length) c5418 (l5320 ++ ([x5323] : List Int)), .row (tInt .i64) 3 (some ⟨b4587, 0, none⟩) l3081.length c3083 l3081]) [0, 1] (by decide) rfl
          refine bp 4 1 (ro (go_seq (rp 1 (go_seq (go_seq (rp 1 (go_block ?_)))))))
          refine go_iter (assizeref07ztable_back.s8 a0 l3081 l5320 x5323) (fun (x5629, x5630) f w => ∃ (j : Nat → Value), f = updL j [(0, vP b0z 0), (2, vI a2), (8, vS (some ⟨b4587, 0, none⟩) l3081.length c3083), (13, vS A5417 ((l5320 ++ ([x5323] : List Int)).length) c5418), (14, vI x5323), (15, vI x5629), (16, vI x5630)] ∧ Inv M w [.row (tInt .i64) 3 (some ⟨b4587, 0, none⟩) l3081.length c3083 l3081, .row (tInt .i64) 3 A5417 ((l5320 ++ ([x5323] : List Int)).length) c5418 (l5320 ++ ([x5323] : List Int))]) H ⟨_, at_, hI.pick [1, 0] (by decide) rfl⟩ ?_
          clear H hI
          rintro ⟨x5629, x5630⟩ _ _ o4 H ⟨_, rfl, hI⟩ hin4 hout4
          refine go_seq ?_
          refine go_seq_join (o := o4) (fun b5635 f w => ∃ (j : Nat → Value), f = updL j [(0, vP b0z 0), (2, vI a2), (8, vS (some ⟨b4587, 0, none⟩) l3081.length c3083), (13, vS A5417 ((l5320 ++ ([x5323] : List Int)).length) c5418), (14, vI x5323), (15, vI x5629), (16, vI x5630), (105, vB b5635)] ∧ Inv M w [.row (tInt .i64) 3 (some ⟨b4587, 0, none⟩) l3081.length c3083 l3081, .row (tInt .i64) 3 A5417 ((l5320 ++ ([x5323] : List Int)).length) c5418 (l5320 ++ ([x5323] : List Int))]) (fun b5635 => assizeref07ztable_back.j9 a0 l3081 l5320 x5323 x5629 x5630 b5635) ?_ (fun hJ5636 => ?_)
          · clear H hI
            rintro b5635 _ _ ⟨_, rfl, hI⟩ H
            replace H := cond_some H
            rcases H with ⟨hc5637, H⟩ | ⟨hc5637, H⟩
            · refine gt hc5637 (go_skip (go_seq ?_))
              refine go_block_join (o := o4) (fun x5675 f w => ∃ (j : Nat → Value), f = updL j [(0, vP b0z 0), (2, vI a2), (8, vS (some ⟨b4587, 0, none⟩) l3081.length c3083), (13, vS A5417 ((l5320 ++ ([x5323] : List Int)).length) c5418), (14, vI x5323), (15, vI x5675), (16, vI x5630)] ∧ Inv M w [.row (tInt .i64) 3 (some ⟨b4587, 0, none⟩) l3081.length c3083 l3081, .row (tInt .i64) 3 A5417 ((l5320 ++ ([x5323] : List Int)).length) c5418 (l5320 ++ ([x5323] : List Int))]) (fun x5675 => assizeref07ztable_back.j10 x5630 x5675) ?_ (fun hJ5676 => ?_)
              · clear H hI
                rintro x5675 _ _ ⟨_, rfl, hI⟩ H
                refine rp 3 ?_
                exact hin4 _ (Option.some.inj H).symm _ _ ⟨_, at_, hI⟩
              · refine go_seq_join (o := o4) (fun b5693 f w => ∃ (j : Nat → Value), f = updL j [(0, vP b0z 0), (2, vI a2), (8, vS (some ⟨b4587, 0, none⟩) l3081.length c3083), (13, vS A5417 ((l5320 ++ ([x5323] : List Int)).length) c5418), (14, vI x5323), (15, vI x5629), (16, vI x5630), (129, vB b5693)] ∧ Inv M w [.row (tInt .i64) 3 (some ⟨b4587, 0, none⟩) l3081.length c3083 l3081, .row (tInt .i64) 3 A5417 ((l5320 ++ ([x5323] : List Int)).length) c5418 (l5320 ++ ([x5323] : List Int))]) (fun b5693 => assizeref07ztable_back.j11 x5629 x5630 b5693) ?_ (fun hJ5694 => ?_)
                · clear H hI
                  rintro b5693 _ _ ⟨_, rfl, hI⟩ H
                  replace H := cond_some H
                  rcases H with ⟨hc5695, H⟩ | ⟨hc5695, H⟩
                  · refine gt hc5695 (rp 2 (go_inBlock ?_))
                    exact hJ5676 x5630 _ _ ⟨_, at_, hI⟩ H
                  · refine ge hc5695 (go_skip (go_inBlock ?_))
                    exact hJ5676 x5629 _ _ ⟨_, at_, hI⟩ H
                · replace H := must_some H
                  obtain ⟨g5696, H⟩ := H
                  obtain ⟨b5700, q5701, rfl, cs5699, hk5698, hg5697⟩ := rdS.open hr0z0 rfl g5696
                  obtain ⟨A5702, c5703, rfl, hl5705, hr5704⟩ := hk5698
                  replace H := must_some H
                  obtain ⟨g5706, H⟩ := H
                  obtain ⟨b5707, q5708, rfl, _⟩ := rdS.fopen hr5704 rfl g5706
                  replace H := cond_some H
                  rcases H with ⟨hc5709, H⟩ | ⟨hc5709, H⟩
                  · replace H := must_some H
                    obtain ⟨g5710, H⟩ := H
                    replace H := must_some H
                    obtain ⟨g5711, H⟩ := H
                    refine dx [.p, .p, .p, .l 0 1, .p, .x, .l 1 0, .p, .x, .l 2 0, .c true, .p, .p, .x, .l 3 0, .p, .p, .x, .l 4 0, .p, .p, .p] (gK (hI.lies hb0z) (gD (hI.lies hg5697) (hI.lies (rdS.flook hr5704 rfl g5706)) ((rdS.flook (hI.row 0 rfl) (hI.rowlen 0 rfl) g5710).ok) ((rdS.flook (hI.row 0 rfl) (hI.rowlen 0 rfl) g5711).ok))) _ (bC g5696 (bC g5706 (bC (bndEq hc5709) (bC g5710 (bZ g5711))))) hI ?_
                    clear hI
                    intro _ hI
                    exact hJ5694 (idx l3081 x5630 == w64 ((idx l3081 x5323) - 1)) _ _ ⟨_, at_, hI⟩ H
                  · refine dx [.p, .p, .p, .l 0 1, .p, .x, .l 1 0, .p, .x, .l 2 0, .c false, .p, .p, .p, .p, .p, .p, .p, .p, .p, .p, .p] (gC (hI.lies hb0z) (hI.lies hg5697) (hI.lies (rdS.flook hr5704 rfl g5706))) _ (bC g5696 (bC g5706 (bZ (bndEq hc5709)))) hI ?_
                    clear hI
                    intro _ hI
                    exact hJ5694 false _ _ ⟨_, at_, hI⟩ H
            · refine ge hc5637 ?_
              refine go_exit rfl ?_
              refine rp 2 (go_inBlock ?_)
              replace H := out_some H
              obtain ⟨_, H, he4⟩ := H
              have he := (hout4 _ he4).symm
              subst he
              exact hin3 _ (Option.some.inj H).symm _ _ ⟨_, A5417, c5418, at_, hI⟩
          · refine r_in ?_
            replace H := cond_some H
            rcases H with ⟨hc5712, H⟩ | ⟨hc5712, H⟩
            · refine bx 0 [.p, .p, .p, .p, .l 0 0, .p, .c true, .p, .p, .p] (gA (hI.lies hb0z)) _ (bZ (bndEq hc5712)) (ro ?_)
              exact hJ5636 (decide (x5629 < 0)) _ _ ⟨_, at_, hI⟩ H
            · refine bx 0 [.p, .p, .p, .p, .l 0 0, .p, .c false, .p, .p, .p] (gA (hI.lies hb0z)) _ (bZ (bndEq hc5712)) (ro ?_)
              exact hJ5636 false _ _ ⟨_, at_, hI⟩ H
        · refine ge hc5325 ?_
          refine go_exit rfl ?_
          refine go_seq (rp 3 ?_)
          replace H := out_some H
          obtain ⟨_, H, he3⟩ := H
          have he := (hout3 _ he3).symm
          subst he
          replace H := out_some H
          obtain ⟨_, H, he2⟩ := H
          have he := (hout2 _ he2).symm
          subst he
          replace H := out_some H
          obtain ⟨_, H, he1⟩ := H
          have he := (hout1 _ he1).symm
          subst he
          replace H := Option.some.inj H
          subst H
          exact gr Try.func28 ⟨A5321, c5322, rfl, hI.pick [1] (by decide) rfl⟩

/-! ### assizeref07zSingle -/
theorem enter14 (a : Array Value) : Sem.pureRun Try.prog (callFunc 14 a) = some (.enter 14 a) := by kernel_rfl
theorem assizeref07zSingle_calls (a0 : Graph) (A0z0 : Option Addr) (c0z0 : Nat) (a1 : Int) (a2 : Int) (M : Mem) (w : World) (hI : Inv M w []) (hr0z0 : rdS kEdge M.blk A0z0 a0.Edges) (hl0z0 : a0.Edges.length ≤ c0z0) (r : List Edge × Int) (H : assizeref07zSingle a0 a1 a2 = some r) :
    Calls Try.prog 14 #[.agg #[vI a0.N, vS A0z0 a0.Edges.length c0z0], vI a1, vI a2] w fun e w' => ∃ (A1793 : Option Addr), ∃ (c1794 : Nat), e = .returned (.tuple #[vS A1793 r.1.length c1794, vI r.2]) ∧ Inv M w' [.row kEdge 41 A1793 r.1.length c1794 r.1] := by
  refine cg Try.func14 ?_
  intro cs
  unfold assizeref07zSingle at H
  refine go_seq (r_in (oe 0 rfl ?_))
  refine e_box 24 _ (.agg #[vI a0.N, vS A0z0 a0.Edges.length c0z0]) [vI a0.N, vS A0z0 a0.Edges.length c0z0] rfl (by kernel_rfl) rfl hI ?_
  clear hI
  intro b2 _ hI
  refine bp 1 2 (ro (go_seq (go_seq (r_in (bg 0 [.l 0 0] (gA (hI.grp 0 rfl)) ?_)))))
  replace H := bind_some H
  obtain ⟨y8, hy9, H⟩ := H
  refine oe 1 rfl ?_
  refine ec (enter26 _) (assizeref06zCheck_calls a0 A0z0 c0z0 (memOf _) _ (Inv.start _) (hI.rd hr0z0) hl0z0 _ hy9) ?_
  rintro _ _ ⟨rfl, hI'⟩
  replace hI := hI.call0 hI'
  clear hI'
  refine ⟨_, rfl, ?_⟩
  refine bp 2 1 (ro ?_)
  replace H := cond_some H
  rcases H with ⟨hc10, H⟩ | ⟨hc10, H⟩
  · refine gt hc10 (go_seq (rp 2 ?_))
    replace H := Option.some.inj H
    subst H
    exact gr Try.func14 ⟨none, 0, rfl, (hI.nilrow kEdge 41).pick [1] (by decide) rfl⟩
  · refine ge hc10 (go_skip (go_seq ?_))
    replace H := bind_some H
    obtain ⟨y20, hy21, H⟩ := H
    replace H := bind_some H
    obtain ⟨y24, hy25, H⟩ := H
    refine go_held (fun w => Inv M w [.blk b2 24 [vI a0.N, vS A0z0 a0.Edges.length c0z0]]) (by kernel_rfl) ?_
    replace hI := hI.drew'
    refine hg (n := 5) [(0, .p), (1, .l 0 0), (2, .l 0 0), (3, .p), (5, .l 0 0), (6, .p)] (fun _ hS => (gA (hS.grp 0 rfl))) hI ?_
    refine ho (n := 4) 4 rfl (ec (enter27 _) (assizeref06zSteps_calls a0 A0z0 c0z0 a1 (memOf _) _ (Inv.start _) (hI.rd hr0z0) hl0z0 _ hy21) ?_)
    rintro _ _ ⟨A22, c23, rfl, hI'⟩
    replace hI := hI.call0 hI'
    clear hI'
    refine ⟨_, rfl, ?_⟩
    refine ⟨(hI.pk [0]), ?_⟩
    refine ho (n := 3) 7 rfl (ec (enter27 _) (assizeref06zSteps_calls a0 A0z0 c0z0 a2 (memOf _) _ (Inv.start _) (hI.rd hr0z0) hl0z0 _ hy25) ?_)
    rintro _ _ ⟨A26, c27, rfl, hI'⟩
    replace hI := hI.call0 hI'
    clear hI'
    refine ⟨_, rfl, ?_⟩
    refine ⟨(hI.pk [0]), ?_⟩
    refine hg (n := 2) [(8, .p)] (fun _ hS => gO) (hI.pk [0]) ?_
    refine ho (n := 1) 9 rfl (e_box 60 _ (.agg #[vI a0.N, vS A22 y20.length c23, vS A26 y24.length c27]) [vI a0.N, vS A22 y20.length c23, vS A26 y24.length c27] rfl (by kernel_rfl) rfl hI ?_)
    clear hI
    intro b28 _ hI
    refine ⟨(hI.pk [0]), ?_⟩
    refine hg (n := 0) [(10, .p)] (fun _ hS => gO) (hI.pk [0]) (hd (go_seq (rp 1 (go_seq (go_seq (rp 1 (go_block ?_)))))))
    refine go_iter (assizeref07zSingle.s1 a0 a1 a2 y20 y24) (fun (l1014, x1017) f w => ∃ (j : Nat → Value) (A1015 : Option Addr) (c1016 : Nat), f = updL j [(1, vI a1), (2, vI a2), (3, vP b2 0), (8, vP b28 0), (9, vS A1015 l1014.length c1016), (10, vI x1017)] ∧ Inv M w [.blk b2 24 [vI a0.N, vS A0z0 a0.Edges.length c0z0], .blk b28 60 [vI a0.N, vS A22 y20.length c23, vS A26 y24.length c27], .row (tSlice 4 tBool) 61 A22 y20.length c23 y20, .row (tSlice 4 tBool) 61 A26 y24.length c27 y24, .row (tInt .i64) 3 A1015 l1014.length c1016 l1014]) H ⟨_, none, 0, at_, (hI.nilrow (tInt .i64) 3).pick [0, 3, 1, 2, 4] (by decide) rfl⟩ ?_
    clear H hI
    rintro ⟨l1014, x1017⟩ _ _ o1 H ⟨_, A1015, c1016, rfl, hI⟩ hin1 hout1
    refine go_seq (go_seq (rg [.p, .p, .l 0 0, .p] (gA (hI.grp 0 rfl)) ?_))
    replace H := cond_some H
    rcases H with ⟨hc1019, H⟩ | ⟨hc1019, H⟩
    · refine gt hc1019 (go_skip (go_seq (go_block (go_seq (rp 1 (go_block ?_))))))
      refine go_iter (assizeref07zSingle.s2 a0 y20 y24 x1017) (fun (l1442, x1445) f w => ∃ (j : Nat → Value) (A1443 : Option Addr) (c1444 : Nat), f = updL j [(1, vI a1), (2, vI a2), (3, vP b2 0), (8, vP b28 0), (9, vS A1443 l1442.length c1444), (10, vI x1017), (11, vI x1445)] ∧ Inv M w [.blk b2 24 [vI a0.N, vS A0z0 a0.Edges.length c0z0], .blk b28 60 [vI a0.N, vS A22 y20.length c23, vS A26 y24.length c27], .row (tSlice 4 tBool) 61 A22 y20.length c23 y20, .row (tSlice 4 tBool) 61 A26 y24.length c27 y24, .row (tInt .i64) 3 A1443 l1442.length c1444 l1442]) H ⟨_, A1015, c1016, at_, hI⟩ ?_
      clear H hI
      rintro ⟨l1442, x1445⟩ _ _ o2 H ⟨_, A1443, c1444, rfl, hI⟩ hin2 hout2
      refine go_seq (go_seq (rg [.p, .p, .l 0 0, .p] (gA (hI.grp 0 rfl)) ?_))
      replace H := cond_some H
      rcases H with ⟨hc1447, H⟩ | ⟨hc1447, H⟩
      · refine gt hc1447 (go_skip (go_seq ?_))
        refine go_block_join (o := o2) (fun l1503 f w => ∃ (j : Nat → Value) (A1504 : Option Addr) (c1505 : Nat), f = updL j [(1, vI a1), (2, vI a2), (3, vP b2 0), (8, vP b28 0), (9, vS A1504 l1503.length c1505), (10, vI x1017), (11, vI x1445)] ∧ Inv M w [.blk b2 24 [vI a0.N, vS A0z0 a0.Edges.length c0z0], .blk b28 60 [vI a0.N, vS A22 y20.length c23, vS A26 y24.length c27], .row (tSlice 4 tBool) 61 A22 y20.length c23 y20, .row (tSlice 4 tBool) 61 A26 y24.length c27 y24, .row (tInt .i64) 3 A1504 l1503.length c1505 l1503]) (fun l1503 => assizeref07zSingle.j3 x1445 l1503) ?_ (fun hJ1506 => ?_)
        · clear H hI
          rintro l1503 _ _ ⟨_, A1504, c1505, rfl, hI⟩ H
          refine rp 3 ?_
          exact hin2 _ (Option.some.inj H).symm _ _ ⟨_, A1504, c1505, at_, hI⟩
        · refine go_seq (go_seq (r_in ?_))
          replace H := must_some H
          obtain ⟨g1532, H⟩ := H
          obtain ⟨b1533, rfl⟩ := hI.rowAt 3 rfl g1532
          obtain ⟨cs1536, hk1535, hg1534⟩ := rdS.look (hI.row 3 rfl) (hI.rowlen 3 rfl) g1532
          obtain ⟨A1537, c1538, rfl, hl1540, hr1539⟩ := hk1535
          replace H := must_some H
          obtain ⟨g1541, H⟩ := H
          obtain ⟨b1542, q1543, rfl, _⟩ := rdS.fopen hr1539 rfl g1541
          refine bx 0 [.p, .p, .p, .l 0 2, .p, .x, .l 1 0, .p, .x, .l 2 0, .p] (gC (hI.grp 1 rfl) hg1534.ok ((rdS.flook hr1539 rfl g1541).ok)) _ (bC g1532 (bZ g1541)) (ro ?_)
          replace H := cond_some H
          rcases H with ⟨hc1544, H⟩ | ⟨hc1544, H⟩
          · refine gt hc1544 ?_
            refine go_exit rfl ?_
            exact hJ1506 l1442 _ _ ⟨_, A1443, c1444, at_, hI⟩ H
          · refine ge hc1544 (go_skip (go_seq (r_in (bp 0 3 ?_))))
            replace H := bind_some H
            obtain ⟨y1549, hy1550, H⟩ := H
            refine oe 3 rfl ?_
            refine ec (enter28 _) (assizeref07ztable_back_calls b28 (⟨a0.N, y20, y24⟩ : Assizeref07Table) A22 c23 (some ⟨b1533, 0, none⟩) c27 x1445 x1017 (memOf _) _ (Inv.start _) (Grp.lies (hI.grp 1 rfl)) (hI.row 2 rfl) (hI.rowle 2 rfl) (hI.row 3 rfl) (hI.rowle 3 rfl) _ hy1550) ?_
            rintro _ _ ⟨A1551, c1552, rfl, hI'⟩
            replace hI := hI.call0 hI'
            clear hI'
            refine ⟨_, rfl, ?_⟩
            refine bp 4 5 (ro ?_)
            refine go_seq_join (o := o2) (fun b1555 f w => ∃ (j : Nat → Value), f = updL j [(1, vI a1), (2, vI a2), (3, vP b2 0), (8, vP b28 0), (9, vS A1443 l1442.length c1444), (10, vI x1017), (11, vI x1445), (12, vS A1551 y1549.1.length c1552), (73, vB b1555)] ∧ Inv M w [.blk b2 24 [vI a0.N, vS A0z0 a0.Edges.length c0z0], .blk b28 60 [vI a0.N, vS A22 y20.length c23, vS (some ⟨b1533, 0, none⟩) y24.length c27], .row (tSlice 4 tBool) 61 A22 y20.length c23 y20, .row (tSlice 4 tBool) 61 (some ⟨b1533, 0, none⟩) y24.length c27 y24, .row (tInt .i64) 3 A1443 l1442.length c1444 l1442, .row (tInt .i64) 3 A1551 y1549.1.length c1552 y1549.1]) (fun b1555 => assizeref07zSingle.j4 x1017 l1442 x1445 y1549 b1555) ?_ (fun hJ1556 => ?_)
            · clear H hI
              rintro b1555 _ _ ⟨_, rfl, hI⟩ H
              replace H := cond_some H
              rcases H with ⟨hc1557, H⟩ | ⟨hc1557, H⟩
              · refine gt hc1557 (r_in (bp 0 1 (oe 1 rfl ?_)))
                refine e_partsS 46 3 1 _ _ _ #[vI x1017] [vI x1017] rfl rfl rfl rfl (by kernel_rfl) (by kernel_rfl) (by kernel_rfl) (by kernel_rfl) hI ?_
                clear hI
                intro b1558 _ hs1559 hI
                replace hI := hI.asrow (k := (tInt .i64)) (xs := ([x1017] : List Int)) (cs := [vI x1017]) (R := []) (L' := [.blk b2 24 [vI a0.N, vS A0z0 a0.Edges.length c0z0], .blk b28 60 [vI a0.N, vS A22 y20.length c23, vS (some ⟨b1533, 0, none⟩) y24.length c27], .row (tSlice 4 tBool) 61 A22 y20.length c23 y20, .row (tSlice 4 tBool) 61 (some ⟨b1533, 0, none⟩) y24.length c27 y24, .row (tInt .i64) 3 A1443 l1442.length c1444 l1442, .row (tInt .i64) 3 A1551 y1549.1.length c1552 y1549.1]) 1 6 [] [0, 1, 2, 3, 4, 5] (by decide) rfl (mks_cons (mk_flat (k := (tInt .i64)) x1017 [vI x1017] rfl) mks_nil) rfl rfl (by kernel_rfl)
                refine bp 2 1 ?_
                replace H := must_some H
                obtain ⟨g1560, H⟩ := H
                refine oe 3 rfl ?_
                refine e_append_rd (kt := (tInt .i64)) 46 0 3 _ _ _ _ (some ⟨b1558, 0, none⟩) A1551 1 1 ([x1017] : List Int) y1549.1 c1552 0 [1, 2, 3, 4, 5, 6] [.blk b2 24 [vI a0.N, vS A0z0 a0.Edges.length c0z0], .blk b28 60 [vI a0.N, vS A22 y20.length c23, vS (some ⟨b1533, 0, none⟩) y24.length c27], .row (tSlice 4 tBool) 61 A22 y20.length c23 y20, .row (tSlice 4 tBool) 61 (some ⟨b1533, 0, none⟩) y24.length c27 y24, .row (tInt .i64) 3 A1443 l1442.length c1444 l1442, .row (tInt .i64) 3 A1551 y1549.1.length c1552 y1549.1] rfl (by kernel_rfl) (by kernel_rfl) rfl rfl rfl rfl rfl (by kernel_rfl) hI (by decide) rfl (hI.row 6 rfl) g1560 ?_
                clear hI
                intro A1561 c1562 _ hI
                refine bp 4 1 (ro (go_inBlock ?_))
                exact hJ1506 (([x1017] : List Int) ++ y1549.1) _ _ ⟨_, A1561, c1562, at_, hI.pick [1, 2, 3, 4, 0] (by decide) rfl⟩ H
              · refine ge hc1557 (go_skip (go_inBlock ?_))
                exact hJ1506 l1442 _ _ ⟨_, A1443, c1444, at_, hI.pick [0, 1, 2, 3, 4] (by decide) rfl⟩ H
            · refine r_in ?_
              replace H := cond_some H
              rcases H with ⟨hc1563, H⟩ | ⟨hc1563, H⟩
              · replace H := cond_some H
                rcases H with ⟨hc1564, H⟩ | ⟨hc1564, H⟩
                · refine bx 0 [.p, .c true, .p, .p, .p, .c true, .p, .p, .p, .p, .p, .p, .p, .p] gO _ (bC (bndEq hc1563) (bZ (bndEq hc1564))) (ro ?_)
                  exact hJ1556 true _ _ ⟨_, at_, hI⟩ H
                · refine bx 0 [.p, .c true, .p, .p, .p, .c false, .p, .p, .p, .p, .p, .p, .p, .p] gO _ (bC (bndEq hc1563) (bZ (bndEq hc1564))) (ro ?_)
                  exact hJ1556 (decide (w64 ((y1549.1.length : Int) + 1) < (l1442.length : Int))) _ _ ⟨_, at_, hI⟩ H
              · refine bx 0 [.p, .c false, .p, .p, .p, .p, .p, .p, .p, .p, .p, .p, .p, .p] gO _ (bZ (bndEq hc1563)) (ro ?_)
                exact hJ1556 false _ _ ⟨_, at_, hI⟩ H
      · refine ge hc1447 ?_
        refine go_exit rfl ?_
        refine go_inBlock (rp 3 ?_)
        replace H := out_some H
        obtain ⟨_, H, he2⟩ := H
        have he := (hout2 _ he2).symm
        subst he
        exact hin1 _ (Option.some.inj H).symm _ _ ⟨_, A1443, c1444, at_, hI⟩
    · refine ge hc1019 ?_
      refine go_exit rfl ?_
      refine go_seq (rp 1 (go_seq (go_seq (rp 1 (go_block ?_)))))
      refine go_iter (assizeref07zSingle.s5 a0 a1 a2 l1014) (fun (l1745, x1748) f w => ∃ (j : Nat → Value) (A1746 : Option Addr) (c1747 : Nat), f = updL j [(1, vI a1), (2, vI a2), (3, vP b2 0), (9, vS A1015 l1014.length c1016), (14, vS A1746 l1745.length c1747), (15, vI x1748)] ∧ Inv M w [.blk b2 24 [vI a0.N, vS A0z0 a0.Edges.length c0z0], .row (tInt .i64) 3 A1015 l1014.length c1016 l1014, .row kEdge 41 A1746 l1745.length c1747 l1745]) H ⟨_, none, 0, at_, (hI.nilrow kEdge 41).pick [0, 4, 5] (by decide) rfl⟩ ?_
      clear H hI
      rintro ⟨l1745, x1748⟩ _ _ o2 H ⟨_, A1746, c1747, rfl, hI⟩ hin2 hout2
      refine go_seq (go_seq (rp 4 ?_))
      replace H := cond_some H
      rcases H with ⟨hc1750, H⟩ | ⟨hc1750, H⟩
      · refine gt hc1750 (go_skip (go_seq (go_block (go_seq (rp 2 ?_)))))
        refine go_seq_join (o := o2) (fun x1778 f w => ∃ (j : Nat → Value), f = updL j [(1, vI a1), (2, vI a2), (3, vP b2 0), (9, vS A1015 l1014.length c1016), (14, vS A1746 l1745.length c1747), (15, vI x1748), (16, vI x1778)] ∧ Inv M w [.blk b2 24 [vI a0.N, vS A0z0 a0.Edges.length c0z0], .row (tInt .i64) 3 A1015 l1014.length c1016 l1014, .row kEdge 41 A1746 l1745.length c1747 l1745]) (fun x1778 => assizeref07zSingle.j6 a0 l1014 l1745 x1748 x1778) ?_ (fun hJ1779 => ?_)
        · clear H hI
          rintro x1778 _ _ ⟨_, rfl, hI⟩ H
          replace H := must_some H
          obtain ⟨g1780, H⟩ := H
          obtain ⟨b1781, rfl⟩ := hI.rowAt 1 rfl g1780
          replace H := must_some H
          obtain ⟨g1782, H⟩ := H
          replace H := must_some H
          obtain ⟨g1783, H⟩ := H
          replace H := bind_some H
          obtain ⟨y1784, hy1785, H⟩ := H
          replace H := must_some H
          obtain ⟨g1788, H⟩ := H
          refine go_held (fun w => Inv M w [.blk b2 24 [vI a0.N, vS A0z0 a0.Edges.length c0z0], .row (tInt .i64) 3 (some ⟨b1781, 0, none⟩) l1014.length c1016 l1014]) (by kernel_rfl) ?_
          replace hI := hI.drew'
          refine hx (n := 4) [(0, .p), (1, .l 0 0), (2, .p), (3, .p), (4, .p), (5, .x), (6, .l 1 0), (7, .p), (8, .p), (9, .p), (10, .p), (11, .p), (12, .x), (13, .x), (14, .l 2 0)] (fun _ hS => (gC (hS.grp 0 rfl) ((rdS.flook (hS.row 1 rfl) (hS.rowlen 1 rfl) g1780).ok) ((rdS.flook (hS.row 1 rfl) (hS.rowlen 1 rfl) g1783).ok))) (hI.pk [0, 1]) _ (bC g1780 (bC (ndEq g1782) (bZ g1783))) ?_
          refine ho (n := 3) 15 rfl (ec (enter29 _) (assizeref07zfirst_calls a0 A0z0 c0z0 x1778 (idx l1014 x1748) (idx l1014 ((w64 (x1748 + 1)).tmod (l1014.length : Int))) (memOf _) _ (Inv.start _) (hI.rd hr0z0) hl0z0 _ hy1785) ?_)
          rintro _ _ ⟨rfl, hI'⟩
          replace hI := hI.call0 hI'
          clear hI'
          refine ⟨_, rfl, ?_⟩
          refine ⟨(hI.pk [0, 1]), ?_⟩
          refine ho (n := 2) 16 rfl (e_partsS 22 41 1 _ _ _ #[vI y1784.From, vI y1784.To, vI y1784.Kind, vI y1784.Key] [vI y1784.From, vI y1784.To, vI y1784.Kind, vI y1784.Key] rfl rfl rfl rfl (by kernel_rfl) (by kernel_rfl) (by kernel_rfl) (by kernel_rfl) hI ?_)
          clear hI
          intro b1786 _ hs1787 hI
          refine ⟨(hI.pk [0, 1]), ?_⟩
          refine ho (n := 1) 17 rfl (e_append kEdge 22 0 41 _ _ _ _ A1746 l1745.length c1747 l1745 ([y1784] : List Edge) b1786 0 1 1 [vI y1784.From, vI y1784.To, vI y1784.Kind, vI y1784.Key] 2 [] [0, 1, 3] [] [.blk b2 24 [vI a0.N, vS A0z0 a0.Edges.length c0z0], .row (tInt .i64) 3 (some ⟨b1781, 0, none⟩) l1014.length c1016 l1014, .blk b1786 41 [vI y1784.From, vI y1784.To, vI y1784.Kind, vI y1784.Key]] rfl (by kernel_rfl) (by kernel_rfl) rfl rfl rfl rfl rfl (by kernel_rfl) hI (by decide) rfl rfl rfl (hI.grp 3 rfl) g1788 (mks_cons (mk_flat (k := kEdge) y1784 [vI y1784.From, vI y1784.To, vI y1784.Kind, vI y1784.Key] rfl) mks_nil) ?_)
          clear hI
          intro A1789 c1790 _ hI
          replace hI := hI.pick (L' := [.row kEdge 41 A1789 ((l1745 ++ ([y1784] : List Edge)).length) c1790 (l1745 ++ ([y1784] : List Edge)), .blk b2 24 [vI a0.N, vS A0z0 a0.Edges.length c0z0], .row (tInt .i64) 3 (some ⟨b1781, 0, none⟩) l1014.length c1016 l1014]) [0, 1, 2] (by decide) rfl
          refine ⟨(hI.pk [1, 2]), ?_⟩
          refine hg (n := 0) [(18, .p)] (fun _ hS => gO) (hI.pk [1, 2]) (hd (go_inBlock (rp 3 ?_)))
          exact hin2 _ (Option.some.inj H).symm _ _ ⟨_, A1789, c1790, at_, hI.pick [1, 2, 0] (by decide) rfl⟩
        · refine go_seq (rp 2 ?_)
          replace H := cond_some H
          rcases H with ⟨hc1791, H⟩ | ⟨hc1791, H⟩
          · refine gt hc1791 (rp 2 ?_)
            exact hJ1779 a2 _ _ ⟨_, at_, hI⟩ H
          · refine ge hc1791 (go_skip ?_)
            exact hJ1779 a1 _ _ ⟨_, at_, hI⟩ H
      · refine ge hc1750 ?_
        refine go_exit rfl ?_
        refine go_seq (rp 3 ?_)
        replace H := out_some H
        obtain ⟨_, H, he2⟩ := H
        have he := (hout2 _ he2).symm
        subst he
        replace H := out_some H
        obtain ⟨_, H, he1⟩ := H
        have he := (hout1 _ he1).symm
        subst he
        replace H := Option.some.inj H
        subst H
        exact gr Try.func14 ⟨A1746, c1747, rfl, hI.pick [2] (by decide) rfl⟩

/-! ### assizelaw07zRingTells -/
theorem enter3 (a : Array Value) : Sem.pureRun Try.prog (callFunc 3 a) = some (.enter 3 a) := by kernel_rfl
theorem assizelaw07zRingTells_calls (a0 : Graph) (A0z0 : Option Addr) (c0z0 : Nat) (a1 : Int) (a2 : Int) (M : Mem) (w : World) (hI : Inv M w []) (hr0z0 : rdS kEdge M.blk A0z0 a0.Edges) (hl0z0 : a0.Edges.length ≤ c0z0) (r : Bool) (H : assizelaw07zRingTells a0 a1 a2 = some r) :
    Calls Try.prog 3 #[.agg #[vI a0.N, vS A0z0 a0.Edges.length c0z0], vI a1, vI a2] w fun e w' => e = .returned (vB r) ∧ Inv M w' [] := by
  refine cg Try.func3 ?_
  intro cs
  unfold assizelaw07zRingTells at H
  refine go_seq (r_in (oe 0 rfl ?_))
  refine e_box 24 _ (.agg #[vI a0.N, vS A0z0 a0.Edges.length c0z0]) [vI a0.N, vS A0z0 a0.Edges.length c0z0] rfl (by kernel_rfl) rfl hI ?_
  clear hI
  intro b2 _ hI
  refine bp 1 1 (ro (go_seq (go_seq (r_in ?_))))
  replace H := bind_some H
  obtain ⟨y8, hy9, H⟩ := H
  refine oe 0 rfl ?_
  refine ec (enter8 _) (assizelaw07zalive_calls (memOf _) _ (Inv.start _) _ hy9) ?_
  rintro _ _ ⟨rfl, hI'⟩
  replace hI := hI.call0 hI'
  clear hI'
  refine ⟨_, rfl, ?_⟩
  refine bp 1 1 (ro ?_)
  replace H := cond_some H
  rcases H with ⟨hc10, H⟩ | ⟨hc10, H⟩
  · refine gt hc10 (go_seq (rp 1 ?_))
    replace H := Option.some.inj H
    subst H
    exact gr Try.func3 ⟨rfl, hI.pn⟩
  · refine ge hc10 (go_skip (go_seq (r_in (bg 0 [.l 0 0] (gA (hI.grp 0 rfl)) ?_))))
    replace H := bind_some H
    obtain ⟨y16, hy17, H⟩ := H
    refine oe 1 rfl ?_
    refine ec (enter9 _) (assizeref06zCopy_calls a0 A0z0 c0z0 (memOf _) _ (Inv.start _) (hI.rd hr0z0) hl0z0 _ hy17) ?_
    rintro _ _ ⟨A18, c19, rfl, hI'⟩
    replace hI := hI.call0 hI'
    clear hI'
    refine ⟨_, rfl, ?_⟩
    refine oe 2 rfl ?_
    refine e_alloc 24 (.agg #[vI 0, vS none 0 0]) [vI 0, vS none 0 0] rfl (by kernel_rfl) rfl hI ?_
    clear hI
    intro b20 _ hI
    refine oe 3 rfl ?_
    refine e_store 24 _ _ 2 b20 24 [vI 0, vS none 0 0] [vI y16.N, vS A18 y16.Edges.length c19] 0 (.agg #[vI y16.N, vS A18 y16.Edges.length c19]) rfl (by kernel_rfl) (by kernel_rfl) (by kernel_rfl) (by kernel_rfl) hI rfl (by kernel_rfl) (by kernel_rfl) ?_
    clear hI
    intro _ hI
    refine ro (go_seq (r_in (bg 0 [.l 0 0, .p] (gA (hI.grp 2 rfl)) ?_)))
    replace H := bind_some H
    obtain ⟨y25, hy26, H⟩ := H
    refine oe 2 rfl ?_
    refine ec (enter10 _) (ring_Plain_calls y16 A18 c19 a1 (memOf _) _ (Inv.start _) (hI.row 1 rfl) (hI.rowle 1 rfl) _ hy26) ?_
    rintro _ _ ⟨A27, c28, rfl, hI'⟩
    replace hI := hI.call0 hI'
    clear hI'
    refine ⟨_, rfl, ?_⟩
    refine bp 3 5 (ro (go_seq (r_in (bg 0 [.l 0 0, .p] (gA (hI.grp 0 rfl)) ?_))))
    replace H := bind_some H
    obtain ⟨y33, hy34, H⟩ := H
    refine oe 2 rfl ?_
    refine ec (enter11 _) (assizeref07zPlain_calls a0 A0z0 c0z0 a1 (memOf _) _ (Inv.start _) (hI.rd hr0z0) hl0z0 _ hy34) ?_
    rintro _ _ ⟨A35, c36, rfl, hI'⟩
    replace hI := hI.call0 hI'
    clear hI'
    refine ⟨_, rfl, ?_⟩
    refine bp 3 5 (ro (go_seq ?_))
    refine go_seq_join (o := r) (fun b45 f w => ∃ (j : Nat → Value), f = updL j [(1, vI a1), (2, vI a2), (3, vP b2 0), (7, vP b20 0), (36, vB b45)] ∧ Inv M w [.blk b2 24 [vI a0.N, vS A0z0 a0.Edges.length c0z0], .blk b20 24 [vI y16.N, vS A18 y16.Edges.length c19], .row kEdge 41 A18 y16.Edges.length c19 y16.Edges]) (fun b45 => assizelaw07zRingTells.j1 a0 a1 a2 y16 b45) ?_ (fun hJ46 => ?_)
    · clear H hI
      rintro b45 _ _ ⟨_, rfl, hI⟩ H
      replace H := cond_some H
      rcases H with ⟨hc47, H⟩ | ⟨hc47, H⟩
      · refine gt hc47 (go_seq (rp 1 ?_))
        replace H := Option.some.inj H
        subst H
        exact gr Try.func3 ⟨rfl, hI.pn⟩
      · refine ge hc47 (go_skip (go_seq (r_in (bg 0 [.l 0 0, .p, .p] (gA (hI.grp 1 rfl)) ?_))))
        replace H := bind_some H
        obtain ⟨y52, hy53, H⟩ := H
        refine oe 3 rfl ?_
        refine ec (enter13 _) (ring_Single_calls y16 A18 c19 a1 a2 (memOf _) _ (Inv.start _) (hI.row 2 rfl) (hI.rowle 2 rfl) _ hy53) ?_
        rintro _ _ ⟨A54, c55, rfl, hI'⟩
        replace hI := hI.call0 hI'
        clear hI'
        refine ⟨_, rfl, ?_⟩
        refine bp 4 5 (ro (go_seq (r_in (bg 0 [.l 0 0, .p, .p] (gA (hI.grp 0 rfl)) ?_))))
        replace H := bind_some H
        obtain ⟨y60, hy61, H⟩ := H
        refine oe 3 rfl ?_
        refine ec (enter14 _) (assizeref07zSingle_calls a0 A0z0 c0z0 a1 a2 (memOf _) _ (Inv.start _) (hI.rd hr0z0) hl0z0 _ hy61) ?_
        rintro _ _ ⟨A62, c63, rfl, hI'⟩
        replace hI := hI.call0 hI'
        clear hI'
        refine ⟨_, rfl, ?_⟩
        refine bp 4 5 (ro (go_seq ?_))
        refine go_seq_join (o := r) (fun b72 f w => ∃ (j : Nat → Value), f = updL j [(1, vI a1), (2, vI a2), (3, vP b2 0), (7, vP b20 0), (59, vB b72)] ∧ Inv M w [.blk b2 24 [vI a0.N, vS A0z0 a0.Edges.length c0z0], .blk b20 24 [vI y16.N, vS A18 y16.Edges.length c19], .row kEdge 41 A18 y16.Edges.length c19 y16.Edges]) (fun b72 => assizelaw07zRingTells.j2 a0 a1 a2 y16 b72) ?_ (fun hJ73 => ?_)
        · clear H hI
          rintro b72 _ _ ⟨_, rfl, hI⟩ H
          replace H := cond_some H
          rcases H with ⟨hc74, H⟩ | ⟨hc74, H⟩
          · refine gt hc74 (go_seq (rp 1 ?_))
            replace H := Option.some.inj H
            subst H
            exact gr Try.func3 ⟨rfl, hI.pn⟩
          · refine ge hc74 (go_skip (go_seq (r_in (bg 0 [.l 0 0, .p, .p] (gA (hI.grp 1 rfl)) ?_))))
            replace H := bind_some H
            obtain ⟨y79, hy80, H⟩ := H
            refine oe 3 rfl ?_
            refine ec (enter15 _) (ring_Spaced_calls y16 A18 c19 a1 a2 (memOf _) _ (Inv.start _) (hI.row 2 rfl) (hI.rowle 2 rfl) _ hy80) ?_
            rintro _ _ ⟨A81, c82, rfl, hI'⟩
            replace hI := hI.call0 hI'
            clear hI'
            refine ⟨_, rfl, ?_⟩
            refine bp 4 5 (ro (go_seq (r_in (bg 0 [.l 0 0, .p, .p] (gA (hI.grp 0 rfl)) ?_))))
            replace H := bind_some H
            obtain ⟨y87, hy88, H⟩ := H
            refine oe 3 rfl ?_
            refine ec (enter16 _) (assizeref07zSpaced_calls a0 A0z0 c0z0 a1 a2 (memOf _) _ (Inv.start _) (hI.rd hr0z0) hl0z0 _ hy88) ?_
            rintro _ _ ⟨A89, c90, rfl, hI'⟩
            replace hI := hI.call0 hI'
            clear hI'
            refine ⟨_, rfl, ?_⟩
            refine bp 4 5 (ro (go_seq (r_in ?_)))
            replace H := cond_some H
            rcases H with ⟨hc98, H⟩ | ⟨hc98, H⟩
            · refine bx 0 [.p, .p, .p, .c true, .p, .p] gO _ (bZ (bndEq hc98)) ?_
              replace H := bind_some H
              obtain ⟨y99, hy100, H⟩ := H
              refine oe 6 rfl ?_
              refine ec (enter12 _) (assizeref06zSameEdges_calls A81 c82 y79.1 A89 c90 y87.1 (memOf _) _ (Inv.start _) (hI.row 3 rfl) (hI.rowle 3 rfl) (hI.row 4 rfl) (hI.rowle 4 rfl) _ hy100) ?_
              rintro _ _ ⟨rfl, hI'⟩
              replace hI := hI.call0 hI'
              clear hI'
              refine ⟨_, rfl, ?_⟩
              replace H := cond_some H
              rcases H with ⟨hc101, H⟩ | ⟨hc101, H⟩
              · replace H := cond_some H
                rcases H with ⟨hc102, H⟩ | ⟨hc102, H⟩
                · refine bx 7 [.p, .c true, .p, .l 0 0, .p, .l 1 0, .p, .p, .c true, .p, .l 0 1, .p, .l 1 1] (gB (hI.grp 1 rfl) (hI.grp 0 rfl)) _ (bC (bndEq hc101) (bZ (bndEq hc102))) ?_
                  replace H := bind_some H
                  obtain ⟨y103, hy104, H⟩ := H
                  refine oe 20 rfl ?_
                  refine ec (enter12 _) (assizeref06zSameEdges_calls A18 c19 y16.Edges A0z0 c0z0 a0.Edges (memOf _) _ (Inv.start _) (hI.row 2 rfl) (hI.rowle 2 rfl) (hI.rd hr0z0) hl0z0 _ hy104) ?_
                  rintro _ _ ⟨rfl, hI'⟩
                  replace hI := hI.call0 hI'
                  clear hI'
                  refine ⟨_, rfl, ?_⟩
                  refine bp 21 2 (ro ?_)
                  replace H := Option.some.inj H
                  subst H
                  exact gr Try.func3 ⟨rfl, hI.pn⟩
                · refine bx 7 [.p, .c true, .p, .l 0 0, .p, .l 1 0, .p, .p, .c false, .p, .p, .p, .p, .p, .p, .p] (gB (hI.grp 1 rfl) (hI.grp 0 rfl)) _ (bC (bndEq hc101) (bZ (bndEq hc102))) (ro ?_)
                  replace H := Option.some.inj H
                  subst H
                  exact gr Try.func3 ⟨rfl, hI.pn⟩
              · refine bx 7 [.p, .c false, .p, .p, .p, .p, .p, .p, .p, .p, .p, .p, .p, .p, .p, .p] gO _ (bZ (bndEq hc101)) (ro ?_)
                replace H := Option.some.inj H
                subst H
                exact gr Try.func3 ⟨rfl, hI.pn⟩
            · refine bx 0 [.p, .p, .p, .c false, .p, .p, .p, .p, .p, .p, .p, .p, .p, .p, .p, .p, .p, .p, .p, .p, .p, .p, .p] gO _ (bZ (bndEq hc98)) (ro ?_)
              replace H := Option.some.inj H
              subst H
              exact gr Try.func3 ⟨rfl, hI.pn⟩
        · refine r_in ?_
          replace H := cond_some H
          rcases H with ⟨hc105, H⟩ | ⟨hc105, H⟩
          · refine bx 0 [.p, .p, .p, .c true, .p, .p, .p, .p, .p] gO _ (bZ (bndEq hc105)) (ro ?_)
            exact hJ73 true _ _ ⟨_, at_, hI.pick [0, 1, 2] (by decide) rfl⟩ H
          · refine bx 0 [.p, .p, .p, .c false, .p, .p] gO _ (bZ (bndEq hc105)) ?_
            replace H := bind_some H
            obtain ⟨y106, hy107, H⟩ := H
            refine oe 6 rfl ?_
            refine ec (enter12 _) (assizeref06zSameEdges_calls A54 c55 y52.1 A62 c63 y60.1 (memOf _) _ (Inv.start _) (hI.row 3 rfl) (hI.rowle 3 rfl) (hI.row 4 rfl) (hI.rowle 4 rfl) _ hy107) ?_
            rintro _ _ ⟨rfl, hI'⟩
            replace hI := hI.call0 hI'
            clear hI'
            refine ⟨_, rfl, ?_⟩
            refine bp 7 2 (ro ?_)
            exact hJ73 (!y106) _ _ ⟨_, at_, hI.pick [0, 1, 2] (by decide) rfl⟩ H
    · refine r_in ?_
      replace H := cond_some H
      rcases H with ⟨hc108, H⟩ | ⟨hc108, H⟩
      · refine bx 0 [.p, .p, .p, .c true, .p, .p, .p, .p, .p] gO _ (bZ (bndEq hc108)) (ro ?_)
        exact hJ46 true _ _ ⟨_, at_, hI.pick [0, 2, 1] (by decide) rfl⟩ H
      · refine bx 0 [.p, .p, .p, .c false, .p, .p] gO _ (bZ (bndEq hc108)) ?_
        replace H := bind_some H
        obtain ⟨y109, hy110, H⟩ := H
        refine oe 6 rfl ?_
        refine ec (enter12 _) (assizeref06zSameEdges_calls A27 c28 y25.1 A35 c36 y33.1 (memOf _) _ (Inv.start _) (hI.row 3 rfl) (hI.rowle 3 rfl) (hI.row 4 rfl) (hI.rowle 4 rfl) _ hy110) ?_
        rintro _ _ ⟨rfl, hI'⟩
        replace hI := hI.call0 hI'
        clear hI'
        refine ⟨_, rfl, ?_⟩
        refine bp 7 2 (ro ?_)
        exact hJ46 (!y109) _ _ ⟨_, at_, hI.pick [0, 2, 1] (by decide) rfl⟩ H

/-! ### assizeref07zFits -/
theorem enter18 (a : Array Value) : Sem.pureRun Try.prog (callFunc 18 a) = some (.enter 18 a) := by kernel_rfl
theorem assizeref07zFits_calls (a0 : Graph) (A0z0 : Option Addr) (c0z0 : Nat) (A1z : Option Addr) (c1z : Nat) (a1 : List Edge) (a2 : Int) (a3 : Int) (a4 : Int) (M : Mem) (w : World) (hI : Inv M w []) (hr0z0 : rdS kEdge M.blk A0z0 a0.Edges) (hl0z0 : a0.Edges.length ≤ c0z0) (hr1z : rdS kEdge M.blk A1z a1) (hl1z : a1.length ≤ c1z) (r : Bool) (H : assizeref07zFits a0 a1 a2 a3 a4 = some r) :
    Calls Try.prog 18 #[.agg #[vI a0.N, vS A0z0 a0.Edges.length c0z0], vS A1z a1.length c1z, vI a2, vI a3, vI a4] w fun e w' => e = .returned (vB r) ∧ Inv M w' [] := by
  refine cg Try.func18 ?_
  intro cs
  unfold assizeref07zFits at H
  refine go_seq (r_in (oe 0 rfl ?_))
  refine e_box 24 _ (.agg #[vI a0.N, vS A0z0 a0.Edges.length c0z0]) [vI a0.N, vS A0z0 a0.Edges.length c0z0] rfl (by kernel_rfl) rfl hI ?_
  clear hI
  intro b2 _ hI
  refine bp 1 1 (ro (go_seq ?_))
  refine go_seq_join (o := r) (fun b15 f w => ∃ (j : Nat → Value), f = updL j [(1, vS A1z a1.length c1z), (2, vI a2), (3, vI a3), (4, vI a4), (5, vP b2 0), (33, vB b15)] ∧ Inv M w [.blk b2 24 [vI a0.N, vS A0z0 a0.Edges.length c0z0]]) (fun b15 => assizeref07zFits.j1 a0 a1 a2 a3 a4 b15) ?_ (fun hJ16 => ?_)
  · clear H hI
    rintro b15 _ _ ⟨_, rfl, hI⟩ H
    replace H := cond_some H
    rcases H with ⟨hc17, H⟩ | ⟨hc17, H⟩
    · refine gt hc17 (go_seq (rp 1 ?_))
      replace H := Option.some.inj H
      subst H
      exact gr Try.func18 ⟨rfl, hI.pn⟩
    · refine ge hc17 (go_skip (go_seq (r_in (bg 0 [.p, .l 0 0] (gA (hI.grp 0 rfl)) ?_))))
      replace H := must_some H
      obtain ⟨g20, H⟩ := H
      refine oe 2 rfl ?_
      refine e_make tBool (default : Bool) 61 4 _ _ _ (vB false) a0.N rfl rfl rfl rfl rfl rfl (fun _ => rfl) (by kernel_rfl) (by kernel_rfl) g20 hI ?_
      clear hI
      intro b21 _ hI
      refine bp 3 1 (ro (go_seq (go_seq (rp 1 (go_block ?_)))))
      refine go_is 11 (vS (some ⟨b21, 0, none⟩) a0.N.toNat a0.N.toNat) (vS (some ⟨b21, 0, none⟩) ((List.replicate a0.N.toNat (default : Bool)).length) a0.N.toNat) (by kernel_rfl) (by first | rfl | simp only [List.length_set, List.length_replicate, List.length_nil]) ?_
      replace hI := hI.renum 1 rfl
      refine go_iter (assizeref07zFits.s2 a0 a1 a2 a3 a4) (fun (l652, x655) f w => ∃ (j : Nat → Value) (A653 : Option Addr) (c654 : Nat), f = updL j [(1, vS A1z a1.length c1z), (2, vI a2), (3, vI a3), (4, vI a4), (5, vP b2 0), (11, vS A653 l652.length c654), (12, vI x655)] ∧ Inv M w [.blk b2 24 [vI a0.N, vS A0z0 a0.Edges.length c0z0], .row tBool 4 A653 l652.length c654 l652]) H ⟨_, (some ⟨b21, 0, none⟩), a0.N.toNat, at_, hI⟩ ?_
      clear H hI
      rintro ⟨l652, x655⟩ _ _ o1 H ⟨_, A653, c654, rfl, hI⟩ hin1 hout1
      refine go_seq (go_seq (rp 4 ?_))
      replace H := cond_some H
      rcases H with ⟨hc657, H⟩ | ⟨hc657, H⟩
      · refine gt hc657 (go_skip (go_seq (go_block (go_seq (rp 1 (go_seq (go_seq (rp 1 (go_block ?_)))))))))
        refine go_iter (assizeref07zFits.s3 a0 a1 a2 a3 a4 l652 x655) (fun (b904, x905) f w => ∃ (j : Nat → Value), f = updL j [(1, vS A1z a1.length c1z), (2, vI a2), (3, vI a3), (4, vI a4), (5, vP b2 0), (11, vS A653 l652.length c654), (12, vI x655), (13, vB b904), (14, vI x905)] ∧ Inv M w [.blk b2 24 [vI a0.N, vS A0z0 a0.Edges.length c0z0], .row tBool 4 A653 l652.length c654 l652]) H ⟨_, at_, hI⟩ ?_
        clear H hI
        rintro ⟨b904, x905⟩ _ _ o2 H ⟨_, rfl, hI⟩ hin2 hout2
        refine go_seq ?_
        refine go_seq_join (o := o2) (fun b910 f w => ∃ (j : Nat → Value), f = updL j [(1, vS A1z a1.length c1z), (2, vI a2), (3, vI a3), (4, vI a4), (5, vP b2 0), (11, vS A653 l652.length c654), (12, vI x655), (13, vB b904), (14, vI x905), (51, vB b910)] ∧ Inv M w [.blk b2 24 [vI a0.N, vS A0z0 a0.Edges.length c0z0], .row tBool 4 A653 l652.length c654 l652]) (fun b910 => assizeref07zFits.j4 a0 a1 a2 a3 a4 l652 x655 b904 x905 b910) ?_ (fun hJ911 => ?_)
        · clear H hI
          rintro b910 _ _ ⟨_, rfl, hI⟩ H
          replace H := cond_some H
          rcases H with ⟨hc912, H⟩ | ⟨hc912, H⟩
          · refine gt hc912 (go_skip (go_seq (go_block ?_)))
            replace H := must_some H
            obtain ⟨g925, H⟩ := H
            obtain ⟨b926, q927, rfl, _⟩ := rdS.fopen hr0z0 rfl g925
            replace H := must_some H
            obtain ⟨g928, H⟩ := H
            obtain ⟨b929, q930, rfl, _⟩ := rdS.fopen hr1z rfl g928
            refine dx [.p, .l 0 1, .p, .x, .l 1 0, .p, .p, .x, .l 2 0, .x, .p] (gC (hI.grp 0 rfl) (hI.lies (rdS.flook hr0z0 rfl g925)) (hI.lies (rdS.flook hr1z rfl g928))) _ (bC g925 (bZ g928)) hI ?_
            clear hI
            intro _ hI
            refine go_inBlock (rp 3 ?_)
            exact hin2 _ (Option.some.inj H).symm _ _ ⟨_, at_, hI⟩
          · refine ge hc912 ?_
            refine go_exit rfl ?_
            refine go_seq (r_in ?_)
            replace H := must_some H
            obtain ⟨g936, H⟩ := H
            replace H := must_some H
            obtain ⟨g937, H⟩ := H
            obtain ⟨b938, q939, rfl, _⟩ := rdS.fopen hr1z rfl g937
            refine bx 0 [.p, .p, .p, .p, .p, .x, .x, .l 0 0] (gA (hI.lies (rdS.flook hr1z rfl g937))) _ (bC (ndEq g936) (bZ g937)) (oe 8 rfl ?_)
            refine e_alloc 41 (.agg #[vI 0, vI 0, vI 0, vI 0]) [vI 0, vI 0, vI 0, vI 0] rfl (by kernel_rfl) rfl hI ?_
            clear hI
            intro b940 _ hI
            refine oe 9 rfl ?_
            refine e_store 41 _ _ 2 b940 41 [vI 0, vI 0, vI 0, vI 0] [vI ((idx a1 ((w64 (x655 + 1)).tmod (a1.length : Int))).From), vI ((idx a1 ((w64 (x655 + 1)).tmod (a1.length : Int))).To), vI ((idx a1 ((w64 (x655 + 1)).tmod (a1.length : Int))).Kind), vI ((idx a1 ((w64 (x655 + 1)).tmod (a1.length : Int))).Key)] 0 (.agg #[vI ((idx a1 ((w64 (x655 + 1)).tmod (a1.length : Int))).From), vI ((idx a1 ((w64 (x655 + 1)).tmod (a1.length : Int))).To), vI ((idx a1 ((w64 (x655 + 1)).tmod (a1.length : Int))).Kind), vI ((idx a1 ((w64 (x655 + 1)).tmod (a1.length : Int))).Key)]) rfl (by kernel_rfl) (by kernel_rfl) (by kernel_rfl) (by kernel_rfl) hI rfl (by kernel_rfl) (by kernel_rfl) ?_
            clear hI
            intro _ hI
            refine ro (go_seq ?_)
            refine go_seq_join (o := o2) (fun b953 f w => ∃ (j : Nat → Value), f = updL j [(1, vS (some ⟨b938, q939, none⟩) a1.length c1z), (2, vI a2), (3, vI a3), (4, vI a4), (5, vP b2 0), (11, vS A653 l652.length c654), (12, vI x655), (15, vP b940 0), (93, vB b953)] ∧ Inv M w [.blk b2 24 [vI a0.N, vS A0z0 a0.Edges.length c0z0], .row tBool 4 A653 l652.length c654 l652, .blk b940 41 [vI ((idx a1 ((w64 (x655 + 1)).tmod (a1.length : Int))).From), vI ((idx a1 ((w64 (x655 + 1)).tmod (a1.length : Int))).To), vI ((idx a1 ((w64 (x655 + 1)).tmod (a1.length : Int))).Kind), vI ((idx a1 ((w64 (x655 + 1)).tmod (a1.length : Int))).Key)]]) (fun b953 => assizeref07zFits.j5 a1 a2 a3 a4 l652 x655 b953) ?_ (fun hJ954 => ?_)
            · clear H hI
              rintro b953 _ _ ⟨_, rfl, hI⟩ H
              replace H := cond_some H
              rcases H with ⟨hc955, H⟩ | ⟨hc955, H⟩
              · refine gt hc955 (go_seq (rp 1 ?_))
                replace H := out_some H
                obtain ⟨_, H, he2⟩ := H
                have he := (hout2 _ he2).symm
                subst he
                replace H := out_some H
                obtain ⟨_, H, he1⟩ := H
                have he := (hout1 _ he1).symm
                subst he
                replace H := Option.some.inj H
                subst H
                exact gr Try.func18 ⟨rfl, hI.pn⟩
              · refine ge hc955 (go_skip (go_seq (r_in ?_)))
                replace H := must_some H
                obtain ⟨g959, H⟩ := H
                replace H := must_some H
                obtain ⟨g960, H⟩ := H
                obtain ⟨b961, rfl⟩ := hI.rowAt 1 rfl g960
                refine bx 0 [.p, .p, .p, .x, .p, .l 0 0, .x] (gA (hI.lies (rdS.flook hr1z rfl g959))) _ (bC g959 (bZ g960)) (oe 7 rfl ?_)
                refine e_put 4 _ _ 1 b961 4 l652.length c654 l652 true ((idx a1 x655).From) 0 (vB true) rfl (by kernel_rfl) (by kernel_rfl) (by kernel_rfl) (by kernel_rfl) hI rfl (by simpa only [List.length_set, List.length_replicate] using g960) (by kernel_rfl) (by kernel_rfl) ?_
                clear hI
                intro _ hI
                refine ro (go_seq ?_)
                refine dx [.p, .p, .x, .p, .l 0 2, .p, .p, .p, .p, .p, .x, .p, .l 0 2, .p, .p, .p, .p, .p] (gA (hI.lies (rdS.flook hr1z rfl g959))) _ (bC g959 (bZ g959)) hI ?_
                clear hI
                intro _ hI
                refine go_block ?_
                refine go_seq_join (o := o2) (fun b987 f w => ∃ (j : Nat → Value), f = updL j [(1, vS (some ⟨b938, q939, none⟩) a1.length c1z), (2, vI a2), (3, vI a3), (4, vI a4), (5, vP b2 0), (11, vS (some ⟨b961, 0, none⟩) ((l652.set ((idx a1 x655).From).toNat true).length) c654), (12, vI x655), (15, vP b940 0), (16, vB (bAnd .i64 ((idx a1 x655).Kind) a2 != 0)), (17, vB (bAnd .i64 ((idx a1 x655).Kind) a3 != 0)), (117, vB b987)] ∧ Inv M w [.blk b2 24 [vI a0.N, vS A0z0 a0.Edges.length c0z0], .row tBool 4 (some ⟨b961, 0, none⟩) ((l652.set ((idx a1 x655).From).toNat true).length) c654 (l652.set ((idx a1 x655).From).toNat true), .blk b940 41 [vI ((idx a1 ((w64 (x655 + 1)).tmod (a1.length : Int))).From), vI ((idx a1 ((w64 (x655 + 1)).tmod (a1.length : Int))).To), vI ((idx a1 ((w64 (x655 + 1)).tmod (a1.length : Int))).Kind), vI ((idx a1 ((w64 (x655 + 1)).tmod (a1.length : Int))).Key)]]) (fun b987 => assizeref07zFits.j6 a1 a2 a3 a4 l652 x655 b987) ?_ (fun hJ988 => ?_)
                · clear H hI
                  rintro b987 _ _ ⟨_, rfl, hI⟩ H
                  replace H := cond_some H
                  rcases H with ⟨hc989, H⟩ | ⟨hc989, H⟩
                  · refine gt hc989 (go_seq (rp 1 ?_))
                    replace H := out_some H
                    obtain ⟨_, H, he2⟩ := H
                    have he := (hout2 _ he2).symm
                    subst he
                    replace H := out_some H
                    obtain ⟨_, H, he1⟩ := H
                    have he := (hout1 _ he1).symm
                    subst he
                    replace H := Option.some.inj H
                    subst H
                    exact gr Try.func18 ⟨rfl, hI.pn⟩
                  · refine ge hc989 ?_
                    refine go_seq_join (o := o2) (fun b993 f w => ∃ (j : Nat → Value), f = updL j [(1, vS (some ⟨b938, q939, none⟩) a1.length c1z), (2, vI a2), (3, vI a3), (4, vI a4), (5, vP b2 0), (11, vS (some ⟨b961, 0, none⟩) ((l652.set ((idx a1 x655).From).toNat true).length) c654), (12, vI x655), (144, vB b993)] ∧ Inv M w [.blk b2 24 [vI a0.N, vS A0z0 a0.Edges.length c0z0], .row tBool 4 (some ⟨b961, 0, none⟩) ((l652.set ((idx a1 x655).From).toNat true).length) c654 (l652.set ((idx a1 x655).From).toNat true)]) (fun b993 => assizeref07zFits.j7 a1 l652 x655 b993) ?_ (fun hJ994 => ?_)
                    · clear H hI
                      rintro b993 _ _ ⟨_, rfl, hI⟩ H
                      replace H := cond_some H
                      rcases H with ⟨hc995, H⟩ | ⟨hc995, H⟩
                      · refine gt hc995 (go_seq (rp 1 ?_))
                        replace H := out_some H
                        obtain ⟨_, H, he2⟩ := H
                        have he := (hout2 _ he2).symm
                        subst he
                        replace H := out_some H
                        obtain ⟨_, H, he1⟩ := H
                        have he := (hout1 _ he1).symm
                        subst he
                        replace H := Option.some.inj H
                        subst H
                        exact gr Try.func18 ⟨rfl, hI.pn⟩
                      · refine ge hc995 (go_skip (go_inBlock (go_inBlock (rp 3 ?_))))
                        replace H := out_some H
                        obtain ⟨_, H, he2⟩ := H
                        have he := (hout2 _ he2).symm
                        subst he
                        exact hin1 _ (Option.some.inj H).symm _ _ ⟨_, (some ⟨b961, 0, none⟩), c654, at_, hI⟩
                    · refine r_in ?_
                      replace H := cond_some H
                      rcases H with ⟨hc996, H⟩ | ⟨hc996, H⟩
                      · replace H := cond_some H
                        rcases H with ⟨hc997, H⟩ | ⟨hc997, H⟩
                        · replace H := cond_some H
                          rcases H with ⟨hc998, H⟩ | ⟨hc998, H⟩
                          · refine bx 0 [.p, .p, .c true, .p, .p, .c true, .p, .p, .p, .c true, .p, .p, .p, .p, .p, .p, .p, .p, .p, .p, .p, .p] gO _ (bC (bndEq hc996) (bC (bndEq hc997) (bZ (bndEq hc998)))) (ro ?_)
                            exact hJ994 true _ _ ⟨_, at_, hI.pick [0, 1] (by decide) rfl⟩ H
                          · refine bx 0 [.p, .p, .c true, .p, .p, .c true, .p, .p, .p, .c false, .p, .p, .c true, .p, .l 0 2, .p, .p, .p, .p, .p, .p, .p] (gA (hI.grp 2 rfl)) _ (bC (bndEq hc996) (bC (bndEq hc997) (bC (bndEq hc998) (bZ (bndEq hc997))))) (ro ?_)
                            exact hJ994 (bAnd .i64 ((idx a1 ((w64 (x655 + 1)).tmod (a1.length : Int))).Kind) a2 == 0) _ _ ⟨_, at_, hI.pick [0, 1] (by decide) rfl⟩ H
                        · refine bx 0 [.p, .p, .c true, .p, .p, .c false, .p, .p, .p, .p, .p, .p, .c false, .p, .p, .p, .p, .p, .p, .p, .p, .p] gO _ (bC (bndEq hc996) (bC (bndEq hc997) (bZ (bndEq hc997)))) (ro ?_)
                          exact hJ994 false _ _ ⟨_, at_, hI.pick [0, 1] (by decide) rfl⟩ H
                      · refine bx 0 [.p, .p, .c false, .p, .p, .p, .p, .p, .p, .p, .p, .p, .p, .p, .p, .p, .p, .p, .p, .p, .p, .p] gO _ (bZ (bndEq hc996)) (ro ?_)
                        exact hJ994 false _ _ ⟨_, at_, hI.pick [0, 1] (by decide) rfl⟩ H
                · refine go_seq_join (o := o2) (fun b1000 f w => ∃ (j : Nat → Value), f = updL j [(1, vS (some ⟨b938, q939, none⟩) a1.length c1z), (2, vI a2), (3, vI a3), (4, vI a4), (5, vP b2 0), (11, vS (some ⟨b961, 0, none⟩) ((l652.set ((idx a1 x655).From).toNat true).length) c654), (12, vI x655), (15, vP b940 0), (16, vB (bAnd .i64 ((idx a1 x655).Kind) a2 != 0)), (17, vB (bAnd .i64 ((idx a1 x655).Kind) a3 != 0)), (117, vB b1000)] ∧ Inv M w [.blk b2 24 [vI a0.N, vS A0z0 a0.Edges.length c0z0], .row tBool 4 (some ⟨b961, 0, none⟩) ((l652.set ((idx a1 x655).From).toNat true).length) c654 (l652.set ((idx a1 x655).From).toNat true), .blk b940 41 [vI ((idx a1 ((w64 (x655 + 1)).tmod (a1.length : Int))).From), vI ((idx a1 ((w64 (x655 + 1)).tmod (a1.length : Int))).To), vI ((idx a1 ((w64 (x655 + 1)).tmod (a1.length : Int))).Kind), vI ((idx a1 ((w64 (x655 + 1)).tmod (a1.length : Int))).Key)]]) (fun b1000 => assizeref07zFits.j8 a1 a2 a3 a4 l652 x655 b1000) ?_ (fun hJ1001 => ?_)
                  · clear H hI
                    rintro b1000 _ _ ⟨_, rfl, hI⟩ H
                    replace H := cond_some H
                    rcases H with ⟨hc1002, H⟩ | ⟨hc1002, H⟩
                    · refine gt hc1002 (go_skip ?_)
                      exact hJ988 b1000 _ _ ⟨_, at_, hI⟩ H
                    · refine ge hc1002 ?_
                      refine go_seq_join (o := o2) (fun b1005 f w => ∃ (j : Nat → Value), f = updL j [(1, vS (some ⟨b938, q939, none⟩) a1.length c1z), (2, vI a2), (3, vI a3), (4, vI a4), (5, vP b2 0), (11, vS (some ⟨b961, 0, none⟩) ((l652.set ((idx a1 x655).From).toNat true).length) c654), (12, vI x655), (15, vP b940 0), (16, vB (bAnd .i64 ((idx a1 x655).Kind) a2 != 0)), (17, vB (bAnd .i64 ((idx a1 x655).Kind) a3 != 0)), (117, vB b1005)] ∧ Inv M w [.blk b2 24 [vI a0.N, vS A0z0 a0.Edges.length c0z0], .row tBool 4 (some ⟨b961, 0, none⟩) ((l652.set ((idx a1 x655).From).toNat true).length) c654 (l652.set ((idx a1 x655).From).toNat true), .blk b940 41 [vI ((idx a1 ((w64 (x655 + 1)).tmod (a1.length : Int))).From), vI ((idx a1 ((w64 (x655 + 1)).tmod (a1.length : Int))).To), vI ((idx a1 ((w64 (x655 + 1)).tmod (a1.length : Int))).Kind), vI ((idx a1 ((w64 (x655 + 1)).tmod (a1.length : Int))).Key)]]) (fun b1005 => assizeref07zFits.j9 a1 a2 a3 a4 l652 x655 b1005) ?_ (fun hJ1006 => ?_)
                      · clear H hI
                        rintro b1005 _ _ ⟨_, rfl, hI⟩ H
                        replace H := cond_some H
                        rcases H with ⟨hc1007, H⟩ | ⟨hc1007, H⟩
                        · refine gt hc1007 (go_skip ?_)
                          exact hJ988 b1005 _ _ ⟨_, at_, hI⟩ H
                        · refine ge hc1007 (r_in ?_)
                          replace H := cond_some H
                          rcases H with ⟨hc1008, H⟩ | ⟨hc1008, H⟩
                          · replace H := cond_some H
                            rcases H with ⟨hc1009, H⟩ | ⟨hc1009, H⟩
                            · refine bx 0 [.p, .p, .c true, .p, .p, .p, .c true, .p, .p, .p, .p] gO _ (bC (bndEq hc1008) (bZ (bndEq hc1009))) (ro ?_)
                              exact hJ988 (!(bAnd .i64 ((idx a1 x655).Kind) a2 != 0)) _ _ ⟨_, at_, hI⟩ H
                            · refine bx 0 [.p, .p, .c true, .p, .p, .p, .c false, .p, .p, .p, .p] gO _ (bC (bndEq hc1008) (bZ (bndEq hc1009))) (ro ?_)
                              exact hJ988 false _ _ ⟨_, at_, hI⟩ H
                          · refine bx 0 [.p, .p, .c false, .p, .p, .p, .p, .p, .p, .p, .p] gO _ (bZ (bndEq hc1008)) (ro ?_)
                            exact hJ988 false _ _ ⟨_, at_, hI⟩ H
                      · refine r_in ?_
                        replace H := cond_some H
                        rcases H with ⟨hc1010, H⟩ | ⟨hc1010, H⟩
                        · replace H := cond_some H
                          rcases H with ⟨hc1011, H⟩ | ⟨hc1011, H⟩
                          · refine bx 0 [.p, .p, .c true, .p, .p, .p, .c true, .p, .p, .p, .p] gO _ (bC (bndEq hc1010) (bZ (bndEq hc1011))) (ro ?_)
                            exact hJ1006 (!(bAnd .i64 ((idx a1 x655).Kind) a3 != 0)) _ _ ⟨_, at_, hI⟩ H
                          · refine bx 0 [.p, .p, .c true, .p, .p, .p, .c false, .p, .p, .p, .p] gO _ (bC (bndEq hc1010) (bZ (bndEq hc1011))) (ro ?_)
                            exact hJ1006 false _ _ ⟨_, at_, hI⟩ H
                        · refine bx 0 [.p, .p, .c false, .p, .p, .p, .p, .p, .p, .p, .p] gO _ (bZ (bndEq hc1010)) (ro ?_)
                          exact hJ1006 false _ _ ⟨_, at_, hI⟩ H
                  · refine r_in ?_
                    replace H := cond_some H
                    rcases H with ⟨hc1012, H⟩ | ⟨hc1012, H⟩
                    · refine bx 0 [.p, .p, .c true, .p, .p, .p, .p] gO _ (bZ (bndEq hc1012)) (ro ?_)
                      refine go_is 11 (vS (some ⟨b961, 0, none⟩) l652.length c654) (vS (some ⟨b961, 0, none⟩) ((l652.set ((idx a1 x655).From).toNat true).length) c654) (by kernel_rfl) (by first | rfl | simp only [List.length_set, List.length_replicate, List.length_nil]) ?_
                      replace hI := hI.renum 1 rfl
                      exact hJ1001 (!(bAnd .i64 ((idx a1 x655).Kind) a2 != 0)) _ _ ⟨_, at_, hI⟩ H
                    · refine bx 0 [.p, .p, .c false, .p, .p, .p, .p] gO _ (bZ (bndEq hc1012)) (ro ?_)
                      refine go_is 11 (vS (some ⟨b961, 0, none⟩) l652.length c654) (vS (some ⟨b961, 0, none⟩) ((l652.set ((idx a1 x655).From).toNat true).length) c654) (by kernel_rfl) (by first | rfl | simp only [List.length_set, List.length_replicate, List.length_nil]) ?_
                      replace hI := hI.renum 1 rfl
                      exact hJ1001 false _ _ ⟨_, at_, hI⟩ H
            · replace H := cond_some H
              rcases H with ⟨hc1013, H⟩ | ⟨hc1013, H⟩
              · refine dx [.p, .p, .c true, .p, .p, .p, .p, .p, .p, .p, .p, .p, .p, .p, .p, .p, .p, .p, .p, .p, .p, .p] gO _ (bZ (bndEq hc1013)) hI ?_
                clear hI
                intro _ hI
                exact hJ954 true _ _ ⟨_, at_, hI⟩ H
              · replace H := must_some H
                obtain ⟨g1014, H⟩ := H
                replace H := must_some H
                obtain ⟨g1015, H⟩ := H
                obtain ⟨b1016, rfl⟩ := hI.rowAt 1 rfl g1015
                replace H := cond_some H
                rcases H with ⟨hc1017, H⟩ | ⟨hc1017, H⟩
                · refine dx [.p, .p, .c false, .p, .p, .p, .x, .p, .l 0 0, .x, .l 1 0, .p, .c true, .p, .p, .p, .p, .p, .p, .p, .p, .p] (gB (hI.lies (rdS.flook hr1z rfl g1014)) ((rdS.flook (hI.row 1 rfl) (hI.rowlen 1 rfl) g1015).ok)) _ (bC (bndEq hc1013) (bC g1014 (bC g1015 (bZ (bndEq hc1017))))) hI ?_
                  clear hI
                  intro _ hI
                  exact hJ954 true _ _ ⟨_, at_, hI⟩ H
                · refine dx [.p, .p, .c false, .p, .p, .p, .x, .p, .l 0 0, .x, .l 1 0, .p, .c false, .p, .p, .x, .p, .l 0 1, .p, .l 2 0, .p, .p] (gC (hI.lies (rdS.flook hr1z rfl g1014)) ((rdS.flook (hI.row 1 rfl) (hI.rowlen 1 rfl) g1015).ok) (hI.grp 2 rfl)) _ (bC (bndEq hc1013) (bC g1014 (bC g1015 (bC (bndEq hc1017) (bZ g1014))))) hI ?_
                  clear hI
                  intro _ hI
                  exact hJ954 ((idx a1 x655).To != (idx a1 ((w64 (x655 + 1)).tmod (a1.length : Int))).From) _ _ ⟨_, at_, hI⟩ H
        · refine r_in ?_
          replace H := cond_some H
          rcases H with ⟨hc1018, H⟩ | ⟨hc1018, H⟩
          · refine bx 0 [.p, .p, .l 0 1, .p, .p, .c true, .p, .p, .p] (gA (hI.grp 0 rfl)) _ (bZ (bndEq hc1018)) (ro ?_)
            exact hJ911 (!b904) _ _ ⟨_, at_, hI⟩ H
          · refine bx 0 [.p, .p, .l 0 1, .p, .p, .c false, .p, .p, .p] (gA (hI.grp 0 rfl)) _ (bZ (bndEq hc1018)) (ro ?_)
            exact hJ911 false _ _ ⟨_, at_, hI⟩ H
      · refine ge hc657 ?_
        refine go_exit rfl ?_
        refine go_seq (rp 1 ?_)
        replace H := out_some H
        obtain ⟨_, H, he1⟩ := H
        have he := (hout1 _ he1).symm
        subst he
        replace H := Option.some.inj H
        subst H
        exact gr Try.func18 ⟨rfl, hI.pn⟩
  · refine r_in (bg 0 [.l 0 0] (gA (hI.grp 0 rfl)) ?_)
    replace H := bind_some H
    obtain ⟨y1019, hy1020, H⟩ := H
    refine oe 1 rfl ?_
    refine ec (enter26 _) (assizeref06zCheck_calls a0 A0z0 c0z0 (memOf _) _ (Inv.start _) (hI.rd hr0z0) hl0z0 _ hy1020) ?_
    rintro _ _ ⟨rfl, hI'⟩
    replace hI := hI.call0 hI'
    clear hI'
    refine ⟨_, rfl, ?_⟩
    replace H := cond_some H
    rcases H with ⟨hc1021, H⟩ | ⟨hc1021, H⟩
    · refine bx 2 [.p, .c true, .p, .p, .p, .p, .p, .p, .p, .p, .p, .p, .p, .p] gO _ (bZ (bndEq hc1021)) (ro ?_)
      exact hJ16 true _ _ ⟨_, at_, hI⟩ H
    · replace H := cond_some H
      rcases H with ⟨hc1022, H⟩ | ⟨hc1022, H⟩
      · refine bx 2 [.p, .c false, .p, .p, .p, .p, .c true, .p, .p, .p, .p, .p, .p, .p] gO _ (bC (bndEq hc1021) (bZ (bndEq hc1022))) (ro ?_)
        exact hJ16 true _ _ ⟨_, at_, hI⟩ H
      · replace H := cond_some H
        rcases H with ⟨hc1023, H⟩ | ⟨hc1023, H⟩
        · refine bx 2 [.p, .c false, .p, .p, .p, .p, .c false, .p, .p, .p, .c true, .p, .p, .p] gO _ (bC (bndEq hc1021) (bC (bndEq hc1022) (bZ (bndEq hc1023)))) (ro ?_)
          exact hJ16 true _ _ ⟨_, at_, hI⟩ H
        · refine bx 2 [.p, .c false, .p, .p, .p, .p, .c false, .p, .p, .p, .c false, .p, .p, .p] gO _ (bC (bndEq hc1021) (bC (bndEq hc1022) (bZ (bndEq hc1023)))) (ro ?_)
          exact hJ16 (decide (a4 > 3)) _ _ ⟨_, at_, hI⟩ H

/-! ### assizelaw07zRingFits -/
theorem enter4 (a : Array Value) : Sem.pureRun Try.prog (callFunc 4 a) = some (.enter 4 a) := by kernel_rfl
theorem assizelaw07zRingFits_calls (a0 : Graph) (A0z0 : Option Addr) (c0z0 : Nat) (A1z : Option Addr) (c1z : Nat) (a1 : List Edge) (a2 : Assizelaw07Masks) (M : Mem) (w : World) (hI : Inv M w []) (hr0z0 : rdS kEdge M.blk A0z0 a0.Edges) (hl0z0 : a0.Edges.length ≤ c0z0) (hr1z : rdS kEdge M.blk A1z a1) (hl1z : a1.length ≤ c1z) (r : Bool) (H : assizelaw07zRingFits a0 a1 a2 = some r) :
    Calls Try.prog 4 #[.agg #[vI a0.N, vS A0z0 a0.Edges.length c0z0], vS A1z a1.length c1z, .agg #[vI a2.D, vI a2.R, vI a2.Rule]] w fun e w' => e = .returned (vB r) ∧ Inv M w' [] := by
  refine cg Try.func4 ?_
  intro cs
  unfold assizelaw07zRingFits at H
  refine go_seq (r_in (oe 0 rfl ?_))
  refine e_box 24 _ (.agg #[vI a0.N, vS A0z0 a0.Edges.length c0z0]) [vI a0.N, vS A0z0 a0.Edges.length c0z0] rfl (by kernel_rfl) rfl hI ?_
  clear hI
  intro b3 _ hI
  refine oe 1 rfl ?_
  refine e_box 34 _ (.agg #[vI a2.D, vI a2.R, vI a2.Rule]) [vI a2.D, vI a2.R, vI a2.Rule] rfl (by kernel_rfl) rfl hI ?_
  clear hI
  intro b4 _ hI
  refine bp 2 1 (ro (go_seq (go_seq (r_in ?_))))
  replace H := bind_some H
  obtain ⟨y10, hy11, H⟩ := H
  refine oe 0 rfl ?_
  refine ec (enter8 _) (assizelaw07zalive_calls (memOf _) _ (Inv.start _) _ hy11) ?_
  rintro _ _ ⟨rfl, hI'⟩
  replace hI := hI.call0 hI'
  clear hI'
  refine ⟨_, rfl, ?_⟩
  refine bp 1 1 (ro ?_)
  replace H := cond_some H
  rcases H with ⟨hc12, H⟩ | ⟨hc12, H⟩
  · refine gt hc12 (go_seq (rp 1 ?_))
    replace H := Option.some.inj H
    subst H
    exact gr Try.func4 ⟨rfl, hI.pn⟩
  · refine ge hc12 (go_skip (go_seq ?_))
    replace H := bind_some H
    obtain ⟨y17, hy18, H⟩ := H
    replace H := bind_some H
    obtain ⟨y19, hy20, H⟩ := H
    refine go_held (fun w => Inv M w [.blk b3 24 [vI a0.N, vS A0z0 a0.Edges.length c0z0], .blk b4 34 [vI a2.D, vI a2.R, vI a2.Rule]]) (by kernel_rfl) ?_
    replace hI := hI.drew'
    refine hg (n := 4) [(0, .l 0 0), (1, .p), (2, .p), (3, .l 1 0), (4, .p), (5, .l 1 1), (6, .p), (7, .l 1 2), (9, .l 0 0), (10, .p), (11, .p), (12, .l 1 0), (13, .p), (14, .l 1 1), (15, .p), (16, .l 1 2)] (fun _ hS => (gB (hS.grp 0 rfl) (hS.grp 1 rfl))) hI ?_
    refine ho (n := 3) 8 rfl (ec (enter17 _) (ring_Fits_calls a0 A0z0 c0z0 A1z c1z a1 a2.D a2.R a2.Rule (memOf _) _ (Inv.start _) (hI.rd hr0z0) hl0z0 (hI.rd hr1z) hl1z _ hy18) ?_)
    rintro _ _ ⟨rfl, hI'⟩
    replace hI := hI.call0 hI'
    clear hI'
    refine ⟨_, rfl, ?_⟩
    refine ⟨hI, ?_⟩
    refine ho (n := 2) 17 rfl (ec (enter18 _) (assizeref07zFits_calls a0 A0z0 c0z0 A1z c1z a1 a2.D a2.R a2.Rule (memOf _) _ (Inv.start _) (hI.rd hr0z0) hl0z0 (hI.rd hr1z) hl1z _ hy20) ?_)
    rintro _ _ ⟨rfl, hI'⟩
    replace hI := hI.call0 hI'
    clear hI'
    refine ⟨_, rfl, ?_⟩
    refine ⟨hI, ?_⟩
    refine hg (n := 0) [(18, .p), (19, .p)] (fun _ hS => gO) hI (hd ?_)
    replace H := Option.some.inj H
    subst H
    exact gr Try.func4 ⟨rfl, hI.pn⟩

/-! ### assizelaw07ztold -/
theorem enter20 (a : Array Value) : Sem.pureRun Try.prog (callFunc 20 a) = some (.enter 20 a) := by kernel_rfl
theorem assizelaw07ztold_calls (a0 : Graph) (A0z0 : Option Addr) (c0z0 : Nat) (a1 : Int) (a2 : Int) (a3 : Int) (M : Mem) (w : World) (hI : Inv M w []) (hr0z0 : rdS kEdge M.blk A0z0 a0.Edges) (hl0z0 : a0.Edges.length ≤ c0z0) (r : List Edge × Int) (H : assizelaw07ztold a0 a1 a2 a3 = some r) :
    Calls Try.prog 20 #[.agg #[vI a0.N, vS A0z0 a0.Edges.length c0z0], vI a1, vI a2, vI a3] w fun e w' => ∃ (A50 : Option Addr), ∃ (c51 : Nat), e = .returned (.tuple #[vS A50 r.1.length c51, vI r.2]) ∧ Inv M w' [.row kEdge 41 A50 r.1.length c51 r.1] := by
  refine cg Try.func20 ?_
  intro cs
  unfold assizelaw07ztold at H
  refine go_seq (r_in (oe 0 rfl ?_))
  refine e_box 24 _ (.agg #[vI a0.N, vS A0z0 a0.Edges.length c0z0]) [vI a0.N, vS A0z0 a0.Edges.length c0z0] rfl (by kernel_rfl) rfl hI ?_
  clear hI
  intro b2 _ hI
  refine bp 1 2 (ro (go_seq (go_seq (rp 1 (go_block (go_seq (rp 2 ?_)))))))
  replace H := cond_some H
  rcases H with ⟨hc23, H⟩ | ⟨hc23, H⟩
  · refine gt hc23 (go_seq (r_in (bg 0 [.l 0 0, .p] (gA (hI.grp 0 rfl)) ?_)))
    replace H := bind_some H
    obtain ⟨y28, hy29, H⟩ := H
    refine oe 2 rfl ?_
    refine ec (enter10 _) (ring_Plain_calls a0 A0z0 c0z0 a1 (memOf _) _ (Inv.start _) (hI.rd hr0z0) hl0z0 _ hy29) ?_
    rintro _ _ ⟨A30, c31, rfl, hI'⟩
    replace hI := hI.call0 hI'
    clear hI'
    refine ⟨_, rfl, ?_⟩
    refine bp 3 4 (ro ?_)
    replace H := Option.some.inj H
    subst H
    exact gr Try.func20 ⟨A30, c31, rfl, hI.pick [1] (by decide) rfl⟩
  · refine ge hc23 (go_seq (rp 2 ?_))
    replace H := cond_some H
    rcases H with ⟨hc32, H⟩ | ⟨hc32, H⟩
    · refine gt hc32 (go_seq (r_in (bg 0 [.l 0 0, .p, .p] (gA (hI.grp 0 rfl)) ?_)))
      replace H := bind_some H
      obtain ⟨y37, hy38, H⟩ := H
      refine oe 3 rfl ?_
      refine ec (enter13 _) (ring_Single_calls a0 A0z0 c0z0 a1 a2 (memOf _) _ (Inv.start _) (hI.rd hr0z0) hl0z0 _ hy38) ?_
      rintro _ _ ⟨A39, c40, rfl, hI'⟩
      replace hI := hI.call0 hI'
      clear hI'
      refine ⟨_, rfl, ?_⟩
      refine bp 4 4 (ro ?_)
      replace H := Option.some.inj H
      subst H
      exact gr Try.func20 ⟨A39, c40, rfl, hI.pick [1] (by decide) rfl⟩
    · refine ge hc32 (go_skip (go_inBlock (go_seq (r_in (bg 0 [.l 0 0, .p, .p] (gA (hI.grp 0 rfl)) ?_)))))
      replace H := bind_some H
      obtain ⟨y45, hy46, H⟩ := H
      refine oe 3 rfl ?_
      refine ec (enter15 _) (ring_Spaced_calls a0 A0z0 c0z0 a1 a2 (memOf _) _ (Inv.start _) (hI.rd hr0z0) hl0z0 _ hy46) ?_
      rintro _ _ ⟨A47, c48, rfl, hI'⟩
      replace hI := hI.call0 hI'
      clear hI'
      refine ⟨_, rfl, ?_⟩
      refine bp 4 4 (ro ?_)
      replace H := Option.some.inj H
      subst H
      exact gr Try.func20 ⟨A47, c48, rfl, hI.pick [1] (by decide) rfl⟩

end Go.Proofs.YtncapkloanfmnaaT
