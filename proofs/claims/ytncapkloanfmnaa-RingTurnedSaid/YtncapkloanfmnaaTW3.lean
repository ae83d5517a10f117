/- The walks, part 3: each call computes its plain function. -/
import Derived.Test.YtncapkloanfmnaaTW2
import Derived.Test.YtncapkloanfmnaaProg
namespace Go.Proofs.YtncapkloanfmnaaT
open Go Go.Proofs Go.Proofs.YtncapkloanfmnaaE
set_option linter.unusedVariables false
set_option linter.unusedSimpArgs false
set_option maxHeartbeats 0
set_option maxRecDepth 4096
/-! ### assizelaw07zleast -/
theorem enter19 (a : Array Value) : Sem.pureRun Try.prog (callFunc 19 a) = some (.enter 19 a) := by kernel_rfl
theorem assizelaw07zleast_calls (a0 : Graph) (A0z0 : Option Addr) (c0z0 : Nat) (a1 : Int) (a2 : Int) (a3 : Int) (M : Mem) (w : World) (hI : Inv M w []) (hr0z0 : rdS kEdge M.blk A0z0 a0.Edges) (hl0z0 : a0.Edges.length ≤ c0z0) (r : Bool) (H : assizelaw07zleast a0 a1 a2 a3 = some r) :
    Calls Try.prog 19 #[.agg #[vI a0.N, vS A0z0 a0.Edges.length c0z0], vI a1, vI a2, vI a3] w fun e w' => e = .returned (vB r) ∧ Inv M w' [] := by
  refine cg Try.func19 ?_
  intro cs
  unfold assizelaw07zleast at H
  refine go_seq (r_in (oe 0 rfl ?_))
  refine e_box 24 _ (.agg #[vI a0.N, vS A0z0 a0.Edges.length c0z0]) [vI a0.N, vS A0z0 a0.Edges.length c0z0] rfl (by kernel_rfl) rfl hI ?_
  clear hI
  intro b2 _ hI
  refine bp 1 1 (ro (go_seq (go_seq (r_in ?_))))
  replace H := bind_some H
  obtain ⟨y8, hy9, H⟩ := H
  refine oe 0 rfl ?_
  refine ec (enter8 _) (assizelaw07zalive_calls (memOf _) _ (Inv.start _) _ hy9) ?_
  rintro _ _ ⟨rfl, hI'⟩
  replace hI := hI.call0 hI'
  clear hI'
  refine ⟨_, rfl, ?_⟩
  refine bp 1 1 (ro ?_)
  replace H := cond_some H
  rcases H with ⟨hc10, H⟩ | ⟨hc10, H⟩
  · refine gt hc10 (go_seq (rp 1 ?_))
    replace H := Option.some.inj H
    subst H
    exact gr Try.func19 ⟨rfl, hI.pn⟩
  · refine ge hc10 (go_skip (go_seq (r_in (bg 0 [.l 0 0, .p, .p, .p] (gA (hI.grp 0 rfl)) ?_))))
    replace H := bind_some H
    obtain ⟨y15, hy16, H⟩ := H
    refine oe 4 rfl ?_
    refine ec (enter20 _) (assizelaw07ztold_calls a0 A0z0 c0z0 a1 a2 a3 (memOf _) _ (Inv.start _) (hI.rd hr0z0) hl0z0 _ hy16) ?_
    rintro _ _ ⟨A17, c18, rfl, hI'⟩
    replace hI := hI.call0 hI'
    clear hI'
    refine ⟨_, rfl, ?_⟩
    refine bp 5 5 (ro (go_seq ?_))
    refine go_seq_join (o := r) (fun b23 f w => ∃ (j : Nat → Value), f = updL j [(1, vI a1), (2, vI a2), (3, vI a3), (4, vP b2 0), (9, vS A17 y15.1.length c18), (34, vB b23)] ∧ Inv M w [.blk b2 24 [vI a0.N, vS A0z0 a0.Edges.length c0z0], .row kEdge 41 A17 y15.1.length c18 y15.1]) (fun b23 => assizelaw07zleast.j1 a0 a1 a2 a3 y15 b23) ?_ (fun hJ24 => ?_)
    · clear H hI
      rintro b23 _ _ ⟨_, rfl, hI⟩ H
      replace H := cond_some H
      rcases H with ⟨hc25, H⟩ | ⟨hc25, H⟩
      · refine gt hc25 (go_seq (rp 1 ?_))
        replace H := Option.some.inj H
        subst H
        exact gr Try.func19 ⟨rfl, hI.pn⟩
      · refine ge hc25 (go_skip (go_seq (go_seq (rp 1 (go_block ?_)))))
        refine go_iter (assizelaw07zleast.s2 a0 a1 a2 a3 y15) (fun x1680 f w => ∃ (j : Nat → Value), f = updL j [(1, vI a1), (2, vI a2), (3, vI a3), (4, vP b2 0), (9, vS A17 y15.1.length c18), (11, vI x1680)] ∧ Inv M w [.blk b2 24 [vI a0.N, vS A0z0 a0.Edges.length c0z0], .row kEdge 41 A17 y15.1.length c18 y15.1]) H ⟨_, at_, hI⟩ ?_
        clear H hI
        rintro x1680 _ _ o1 H ⟨_, rfl, hI⟩ hin1 hout1
        refine go_seq (go_seq (rp 4 ?_))
        replace H := cond_some H
        rcases H with ⟨hc1682, H⟩ | ⟨hc1682, H⟩
        · refine gt hc1682 (go_skip (go_seq (go_block (go_seq (r_in (bg 0 [.p, .l 0 0] (gA (hI.grp 0 rfl)) ?_))))))
          replace H := must_some H
          obtain ⟨g2093, H⟩ := H
          refine oe 2 rfl ?_
          refine e_make tBool (default : Bool) 61 4 _ _ _ (vB false) a0.N rfl rfl rfl rfl rfl rfl (fun _ => rfl) (by kernel_rfl) (by kernel_rfl) g2093 hI ?_
          clear hI
          intro b2094 _ hI
          refine bp 3 1 (ro (go_seq (go_seq (rp 1 (go_block ?_)))))
          refine go_is 12 (vS (some ⟨b2094, 0, none⟩) a0.N.toNat a0.N.toNat) (vS (some ⟨b2094, 0, none⟩) ((List.replicate a0.N.toNat (default : Bool)).length) a0.N.toNat) (by kernel_rfl) (by first | rfl | simp only [List.length_set, List.length_replicate, List.length_nil]) ?_
          replace hI := hI.renum 2 rfl
          refine go_iter (assizelaw07zleast.s3 a0 a1 a2 a3 y15 x1680) (fun (l2240, x2243) f w => ∃ (j : Nat → Value) (A2241 : Option Addr) (c2242 : Nat), f = updL j [(1, vI a1), (2, vI a2), (3, vI a3), (4, vP b2 0), (9, vS A17 y15.1.length c18), (11, vI x1680), (12, vS A2241 l2240.length c2242), (13, vI x2243)] ∧ Inv M w [.blk b2 24 [vI a0.N, vS A0z0 a0.Edges.length c0z0], .row kEdge 41 A17 y15.1.length c18 y15.1, .row tBool 4 A2241 l2240.length c2242 l2240]) H ⟨_, (some ⟨b2094, 0, none⟩), a0.N.toNat, at_, hI⟩ ?_
          clear H hI
          rintro ⟨l2240, x2243⟩ _ _ o2 H ⟨_, A2241, c2242, rfl, hI⟩ hin2 hout2
          refine go_seq (go_seq (rp 4 ?_))
          replace H := cond_some H
          rcases H with ⟨hc2245, H⟩ | ⟨hc2245, H⟩
          · refine gt hc2245 (go_skip (go_seq (go_block (go_seq ?_))))
            refine go_seq_join (o := o2) (fun b2272 f w => ∃ (j : Nat → Value), f = updL j [(1, vI a1), (2, vI a2), (3, vI a3), (4, vP b2 0), (9, vS A17 y15.1.length c18), (11, vI x1680), (12, vS A2241 l2240.length c2242), (13, vI x2243), (65, vB b2272)] ∧ Inv M w [.blk b2 24 [vI a0.N, vS A0z0 a0.Edges.length c0z0], .row kEdge 41 A17 y15.1.length c18 y15.1, .row tBool 4 A2241 l2240.length c2242 l2240]) (fun b2272 => assizelaw07zleast.j4 y15 x1680 l2240 x2243 b2272) ?_ (fun hJ2273 => ?_)
            · clear H hI
              rintro b2272 _ _ ⟨_, rfl, hI⟩ H
              replace H := cond_some H
              rcases H with ⟨hc2274, H⟩ | ⟨hc2274, H⟩
              · refine gt hc2274 (go_seq (rp 1 ?_))
                replace H := out_some H
                obtain ⟨_, H, he2⟩ := H
                have he := (hout2 _ he2).symm
                subst he
                replace H := out_some H
                obtain ⟨_, H, he1⟩ := H
                have he := (hout1 _ he1).symm
                subst he
                replace H := Option.some.inj H
                subst H
                exact gr Try.func19 ⟨rfl, hI.pn⟩
              · refine ge hc2274 (go_skip (r_in ?_))
                replace H := must_some H
                obtain ⟨g2275, H⟩ := H
                obtain ⟨b2276, rfl⟩ := hI.rowAt 1 rfl g2275
                replace H := must_some H
                obtain ⟨g2277, H⟩ := H
                obtain ⟨b2278, rfl⟩ := hI.rowAt 2 rfl g2277
                refine bx 0 [.p, .p, .p, .x, .p, .l 0 0, .p, .p, .p, .x] (gA ((rdS.flook (hI.row 1 rfl) (hI.rowlen 1 rfl) g2275).ok)) _ (bC g2275 (bZ g2277)) (oe 10 rfl ?_)
                refine e_put 4 _ _ 2 b2278 4 l2240.length c2242 l2240 (x2243 != x1680) ((idx y15.1 x2243).From) 0 (vB (x2243 != x1680)) rfl (by kernel_rfl) (by kernel_rfl) (by kernel_rfl) (by kernel_rfl) hI rfl (by simpa only [List.length_set, List.length_replicate] using g2277) (by kernel_rfl) (by kernel_rfl) ?_
                clear hI
                intro _ hI
                refine ro (go_inBlock (rp 3 ?_))
                refine go_is 12 (vS (some ⟨b2278, 0, none⟩) l2240.length c2242) (vS (some ⟨b2278, 0, none⟩) ((l2240.set ((idx y15.1 x2243).From).toNat (x2243 != x1680)).length) c2242) (by kernel_rfl) (by first | rfl | simp only [List.length_set, List.length_replicate, List.length_nil]) ?_
                replace hI := hI.renum 2 rfl
                exact hin2 _ (Option.some.inj H).symm _ _ ⟨_, (some ⟨b2278, 0, none⟩), c2242, at_, hI⟩
            · replace H := must_some H
              obtain ⟨g2279, H⟩ := H
              obtain ⟨b2280, rfl⟩ := hI.rowAt 1 rfl g2279
              replace H := cond_some H
              rcases H with ⟨hc2281, H⟩ | ⟨hc2281, H⟩
              · refine dx [.p, .p, .x, .p, .l 0 0, .p, .c true, .p, .p, .p, .p, .p, .p, .p, .p, .p] (gA ((rdS.flook (hI.row 1 rfl) (hI.rowlen 1 rfl) g2279).ok)) _ (bC g2279 (bZ (bndEq hc2281))) hI ?_
                clear hI
                intro _ hI
                exact hJ2273 true _ _ ⟨_, at_, hI⟩ H
              · refine dx [.p, .p, .x, .p, .l 0 0, .p, .c false, .p, .p, .x, .p, .l 0 0, .p, .l 1 0, .p, .p] (gB ((rdS.flook (hI.row 1 rfl) (hI.rowlen 1 rfl) g2279).ok) (hI.grp 0 rfl)) _ (bC g2279 (bC (bndEq hc2281) (bZ g2279))) hI ?_
                clear hI
                intro _ hI
                exact hJ2273 (decide ((idx y15.1 x2243).From ≥ a0.N)) _ _ ⟨_, at_, hI⟩ H
          · refine ge hc2245 ?_
            refine go_exit rfl ?_
            refine go_seq (r_in (bg 0 [.p, .l 0 0, .p] (gA (hI.grp 0 rfl)) (oe 3 rfl ?_)))
            refine e_alloc 24 (.agg #[vI 0, vS none 0 0]) [vI 0, vS none 0 0] rfl (by kernel_rfl) rfl hI ?_
            clear hI
            intro b2283 _ hI
            refine oe 4 rfl ?_
            refine e_store 24 _ _ 3 b2283 24 [vI 0, vS none 0 0] [vI a0.N, vS none 0 0] 0 (.agg #[vI a0.N, vS none 0 0]) rfl (by kernel_rfl) (by kernel_rfl) (by kernel_rfl) (by kernel_rfl) hI rfl (by kernel_rfl) (by kernel_rfl) ?_
            clear hI
            intro _ hI
            refine ro (go_seq (go_seq (rp 1 (go_block ?_))))
            refine go_iter (assizelaw07zleast.s5 a0 a1 a2 a3 x1680 l2240) (fun (l2664, x2667) f w => ∃ (j : Nat → Value) (A2665 : Option Addr) (c2666 : Nat), f = updL j [(1, vI a1), (2, vI a2), (3, vI a3), (4, vP b2 0), (9, vS A17 y15.1.length c18), (11, vI x1680), (12, vS A2241 l2240.length c2242), (14, vP b2283 0), (15, vI x2667)] ∧ Inv M w [.blk b2 24 [vI a0.N, vS A0z0 a0.Edges.length c0z0], .row kEdge 41 A17 y15.1.length c18 y15.1, .row tBool 4 A2241 l2240.length c2242 l2240, .blk b2283 24 [vI a0.N, vS A2665 l2664.length c2666], .row kEdge 41 A2665 l2664.length c2666 l2664]) H ⟨_, none, 0, at_, (hI.nilrow kEdge 41)⟩ ?_
            clear H hI
            rintro ⟨l2664, x2667⟩ _ _ o3 H ⟨_, A2665, c2666, rfl, hI⟩ hin3 hout3
            refine go_seq (go_seq (rg [.p, .p, .l 0 1, .p, .p] (gA (hI.grp 0 rfl)) ?_))
            replace H := cond_some H
            rcases H with ⟨hc2669, H⟩ | ⟨hc2669, H⟩
            · refine gt hc2669 (go_skip (go_seq ?_))
              refine go_block_join (o := o3) (fun l2743 f w => ∃ (j : Nat → Value) (A2744 : Option Addr) (c2745 : Nat), f = updL j [(1, vI a1), (2, vI a2), (3, vI a3), (4, vP b2 0), (9, vS A17 y15.1.length c18), (11, vI x1680), (12, vS A2241 l2240.length c2242), (14, vP b2283 0), (15, vI x2667)] ∧ Inv M w [.blk b2 24 [vI a0.N, vS A0z0 a0.Edges.length c0z0], .row kEdge 41 A17 y15.1.length c18 y15.1, .row tBool 4 A2241 l2240.length c2242 l2240, .blk b2283 24 [vI a0.N, vS A2744 l2743.length c2745], .row kEdge 41 A2744 l2743.length c2745 l2743]) (fun l2743 => assizelaw07zleast.j6 x2667 l2743) ?_ (fun hJ2746 => ?_)
              · clear H hI
                rintro l2743 _ _ ⟨_, A2744, c2745, rfl, hI⟩ H
                refine rp 3 ?_
                exact hin3 _ (Option.some.inj H).symm _ _ ⟨_, A2744, c2745, at_, hI⟩
              · refine go_seq_join (o := o3) (fun b2754 f w => ∃ (j : Nat → Value), f = updL j [(1, vI a1), (2, vI a2), (3, vI a3), (4, vP b2 0), (9, vS A17 y15.1.length c18), (11, vI x1680), (12, vS A2241 l2240.length c2242), (14, vP b2283 0), (15, vI x2667), (105, vB b2754)] ∧ Inv M w [.blk b2 24 [vI a0.N, vS A0z0 a0.Edges.length c0z0], .row kEdge 41 A17 y15.1.length c18 y15.1, .row tBool 4 A2241 l2240.length c2242 l2240, .blk b2283 24 [vI a0.N, vS A2665 l2664.length c2666], .row kEdge 41 A2665 l2664.length c2666 l2664]) (fun b2754 => assizelaw07zleast.j7 a0 l2664 x2667 b2754) ?_ (fun hJ2755 => ?_)
                · clear H hI
                  rintro b2754 _ _ ⟨_, rfl, hI⟩ H
                  replace H := cond_some H
                  rcases H with ⟨hc2756, H⟩ | ⟨hc2756, H⟩
                  · refine gt hc2756 ?_
                    replace H := must_some H
                    obtain ⟨g2757, H⟩ := H
                    replace H := must_some H
                    obtain ⟨g2762, H⟩ := H
                    refine go_held (fun w => Inv M w [.blk b2 24 [vI a0.N, vS A0z0 a0.Edges.length c0z0], .row kEdge 41 A17 y15.1.length c18 y15.1, .row tBool 4 A2241 l2240.length c2242 l2240]) (by kernel_rfl) ?_
                    replace hI := hI.drew'
                    obtain ⟨b2765, q2766, rfl, _⟩ := rdS.fopen hr0z0 rfl g2757
                    refine hx (n := 5) [(0, .p), (2, .p), (3, .l 0 1), (4, .p), (5, .x), (6, .l 1 0)] (fun _ hS => (gB (hS.grp 0 rfl) (hS.lies (rdS.flook hr0z0 rfl g2757)))) (hI.pk [0, 1, 2]) _ (bZ g2757) ?_
                    refine held_each (n := 4) [1, 7] (by simp) (by kernel_rfl) ⟨⟨_, rfl, by kernel_rfl, ?_⟩, ⟨_, rfl, by kernel_rfl, ?_⟩, trivial⟩
                    · refine (e_read (ops := #[]) [(b2283, 0, [vI a0.N, vS A2665 l2664.length c2666])] (.l 0 1) (vS A2665 l2664.length c2666) [] ⟨(hI.grp 3 rfl), trivial⟩ trivial (by kernel_rfl) (by kernel_rfl) (by kernel_rfl) ⟨(hI.pk [0, 1, 2]), ?_⟩)
                      refine ho (n := 3) 7 rfl (e_partsS 22 41 1 _ _ _ #[vI ((idx a0.Edges x2667).From), vI ((idx a0.Edges x2667).To), vI ((idx a0.Edges x2667).Kind), vI ((idx a0.Edges x2667).Key)] [vI ((idx a0.Edges x2667).From), vI ((idx a0.Edges x2667).To), vI ((idx a0.Edges x2667).Kind), vI ((idx a0.Edges x2667).Key)] rfl rfl rfl rfl (by kernel_rfl) (by kernel_rfl) (by kernel_rfl) (by kernel_rfl) hI ?_)
                      clear hI
                      intro b2771 _ hs2772 hI
                      refine ⟨(hI.pk [0, 1, 2]), ?_⟩
                      refine ho (n := 2) 8 rfl (e_append kEdge 22 0 41 _ _ _ _ A2665 l2664.length c2666 l2664 ([(idx a0.Edges x2667)] : List Edge) b2771 0 1 1 [vI ((idx a0.Edges x2667).From), vI ((idx a0.Edges x2667).To), vI ((idx a0.Edges x2667).Kind), vI ((idx a0.Edges x2667).Key)] 4 [] [0, 1, 2, 3, 5] [] [.blk b2 24 [vI a0.N, vS (some ⟨b2765, q2766, none⟩) a0.Edges.length c0z0], .row kEdge 41 A17 y15.1.length c18 y15.1, .row tBool 4 A2241 l2240.length c2242 l2240, .blk b2283 24 [vI a0.N, vS A2665 l2664.length c2666], .blk b2771 41 [vI ((idx a0.Edges x2667).From), vI ((idx a0.Edges x2667).To), vI ((idx a0.Edges x2667).Kind), vI ((idx a0.Edges x2667).Key)]] rfl (by kernel_rfl) (by kernel_rfl) rfl rfl rfl rfl rfl (by kernel_rfl) hI (by decide) rfl rfl rfl (hI.grp 5 rfl) g2762 (mks_cons (mk_flat (k := kEdge) (idx a0.Edges x2667) [vI ((idx a0.Edges x2667).From), vI ((idx a0.Edges x2667).To), vI ((idx a0.Edges x2667).Kind), vI ((idx a0.Edges x2667).Key)] rfl) mks_nil) ?_)
                      clear hI
                      intro A2775 c2776 _ hI
                      replace hI := hI.pick (L' := [.row kEdge 41 A2775 ((l2664 ++ ([(idx a0.Edges x2667)] : List Edge)).length) c2776 (l2664 ++ ([(idx a0.Edges x2667)] : List Edge)), .blk b2 24 [vI a0.N, vS (some ⟨b2765, q2766, none⟩) a0.Edges.length c0z0], .row kEdge 41 A17 y15.1.length c18 y15.1, .row tBool 4 A2241 l2240.length c2242 l2240, .blk b2283 24 [vI a0.N, vS A2665 l2664.length c2666]]) [0, 1, 2, 3, 4] (by decide) rfl
                      refine ⟨(hI.pk [1, 2, 3]), ?_⟩
                      refine hg (n := 1) [(9, .p)] (fun _ hS => gO) (hI.pk [1, 2, 3]) ?_
                      refine ho (n := 0) 10 rfl (e_store 22 _ _ 4 b2283 24 [vI a0.N, vS A2665 l2664.length c2666] [vI a0.N, vS A2775 ((l2664 ++ ([(idx a0.Edges x2667)] : List Edge)).length) c2776] 1 (vS A2775 ((l2664 ++ ([(idx a0.Edges x2667)] : List Edge)).length) c2776) rfl (by kernel_rfl) (by kernel_rfl) (by kernel_rfl) (by kernel_rfl) hI rfl (by kernel_rfl) (by kernel_rfl) ?_)
                      clear hI
                      intro _ hI
                      refine ⟨(hI.pk [1, 2, 3]), ?_⟩
                      refine hd (go_inBlock ?_)
                      exact hJ2746 (l2664 ++ ([(idx a0.Edges x2667)] : List Edge)) _ _ ⟨_, A2775, c2776, at_, hI.pick [1, 2, 3, 4, 0] (by decide) rfl⟩ H
                    · refine (e_partsS 22 41 1 _ _ _ #[vI ((idx a0.Edges x2667).From), vI ((idx a0.Edges x2667).To), vI ((idx a0.Edges x2667).Kind), vI ((idx a0.Edges x2667).Key)] [vI ((idx a0.Edges x2667).From), vI ((idx a0.Edges x2667).To), vI ((idx a0.Edges x2667).Kind), vI ((idx a0.Edges x2667).Key)] rfl rfl rfl rfl (by kernel_rfl) (by kernel_rfl) (by kernel_rfl) (by kernel_rfl) hI ?_)
                      clear hI
                      intro b2777 _ hs2778 hI
                      refine ⟨(hI.pk [0, 1, 2]), ?_⟩
                      refine ho (n := 3) 1 rfl (e_read (ops := #[]) [(b2283, 0, [vI a0.N, vS A2665 l2664.length c2666])] (.l 0 1) (vS A2665 l2664.length c2666) [] ⟨(hI.grp 3 rfl), trivial⟩ trivial (by kernel_rfl) (by kernel_rfl) (by kernel_rfl) ⟨(hI.pk [0, 1, 2]), ?_⟩)
                      refine ho (n := 2) 8 rfl (e_append kEdge 22 0 41 _ _ _ _ A2665 l2664.length c2666 l2664 ([(idx a0.Edges x2667)] : List Edge) b2777 0 1 1 [vI ((idx a0.Edges x2667).From), vI ((idx a0.Edges x2667).To), vI ((idx a0.Edges x2667).Kind), vI ((idx a0.Edges x2667).Key)] 4 [] [0, 1, 2, 3, 5] [] [.blk b2 24 [vI a0.N, vS (some ⟨b2765, q2766, none⟩) a0.Edges.length c0z0], .row kEdge 41 A17 y15.1.length c18 y15.1, .row tBool 4 A2241 l2240.length c2242 l2240, .blk b2283 24 [vI a0.N, vS A2665 l2664.length c2666], .blk b2777 41 [vI ((idx a0.Edges x2667).From), vI ((idx a0.Edges x2667).To), vI ((idx a0.Edges x2667).Kind), vI ((idx a0.Edges x2667).Key)]] rfl (by kernel_rfl) (by kernel_rfl) rfl rfl rfl rfl rfl (by kernel_rfl) hI (by decide) rfl rfl rfl (hI.grp 5 rfl) g2762 (mks_cons (mk_flat (k := kEdge) (idx a0.Edges x2667) [vI ((idx a0.Edges x2667).From), vI ((idx a0.Edges x2667).To), vI ((idx a0.Edges x2667).Kind), vI ((idx a0.Edges x2667).Key)] rfl) mks_nil) ?_)
                      clear hI
                      intro A2781 c2782 _ hI
                      replace hI := hI.pick (L' := [.row kEdge 41 A2781 ((l2664 ++ ([(idx a0.Edges x2667)] : List Edge)).length) c2782 (l2664 ++ ([(idx a0.Edges x2667)] : List Edge)), .blk b2 24 [vI a0.N, vS (some ⟨b2765, q2766, none⟩) a0.Edges.length c0z0], .row kEdge 41 A17 y15.1.length c18 y15.1, .row tBool 4 A2241 l2240.length c2242 l2240, .blk b2283 24 [vI a0.N, vS A2665 l2664.length c2666]]) [0, 1, 2, 3, 4] (by decide) rfl
                      refine ⟨(hI.pk [1, 2, 3]), ?_⟩
                      refine hg (n := 1) [(9, .p)] (fun _ hS => gO) (hI.pk [1, 2, 3]) ?_
                      refine ho (n := 0) 10 rfl (e_store 22 _ _ 4 b2283 24 [vI a0.N, vS A2665 l2664.length c2666] [vI a0.N, vS A2781 ((l2664 ++ ([(idx a0.Edges x2667)] : List Edge)).length) c2782] 1 (vS A2781 ((l2664 ++ ([(idx a0.Edges x2667)] : List Edge)).length) c2782) rfl (by kernel_rfl) (by kernel_rfl) (by kernel_rfl) (by kernel_rfl) hI rfl (by kernel_rfl) (by kernel_rfl) ?_)
                      clear hI
                      intro _ hI
                      refine ⟨(hI.pk [1, 2, 3]), ?_⟩
                      refine hd (go_inBlock ?_)
                      exact hJ2746 (l2664 ++ ([(idx a0.Edges x2667)] : List Edge)) _ _ ⟨_, A2781, c2782, at_, hI.pick [1, 2, 3, 4, 0] (by decide) rfl⟩ H
                  · refine ge hc2756 (go_skip (go_inBlock ?_))
                    exact hJ2746 l2664 _ _ ⟨_, A2665, c2666, at_, hI⟩ H
                · refine r_in ?_
                  replace H := must_some H
                  obtain ⟨g2783, H⟩ := H
                  obtain ⟨b2784, q2785, rfl, _⟩ := rdS.fopen hr0z0 rfl g2783
                  replace H := must_some H
                  obtain ⟨g2786, H⟩ := H
                  obtain ⟨b2787, rfl⟩ := hI.rowAt 2 rfl g2786
                  replace H := cond_some H
                  rcases H with ⟨hc2788, H⟩ | ⟨hc2788, H⟩
                  · replace H := must_some H
                    obtain ⟨g2789, H⟩ := H
                    refine bx 0 [.p, .p, .l 0 1, .p, .x, .p, .l 1 0, .x, .l 2 0, .c true, .p, .p, .l 0 1, .p, .x, .p, .l 1 1, .x, .l 3 0, .p] (gD (hI.grp 0 rfl) (hI.lies (rdS.flook hr0z0 rfl g2783)) ((rdS.flook (hI.row 2 rfl) (hI.rowlen 2 rfl) g2786).ok) ((rdS.flook (hI.row 2 rfl) (hI.rowlen 2 rfl) g2789).ok)) _ (bC g2783 (bC g2786 (bC (bndEq hc2788) (bC g2783 (bZ g2789))))) (ro ?_)
                    exact hJ2755 (idx l2240 ((idx a0.Edges x2667).To)) _ _ ⟨_, at_, hI⟩ H
                  · refine bx 0 [.p, .p, .l 0 1, .p, .x, .p, .l 1 0, .x, .l 2 0, .c false, .p, .p, .p, .p, .p, .p, .p, .p, .p, .p] (gC (hI.grp 0 rfl) (hI.lies (rdS.flook hr0z0 rfl g2783)) ((rdS.flook (hI.row 2 rfl) (hI.rowlen 2 rfl) g2786).ok)) _ (bC g2783 (bC g2786 (bZ (bndEq hc2788)))) (ro ?_)
                    exact hJ2755 false _ _ ⟨_, at_, hI⟩ H
            · refine ge hc2669 ?_
              refine go_exit rfl ?_
              refine go_seq (r_in (bg 0 [.l 0 0, .p, .p, .p] (gA (hI.grp 3 rfl)) ?_))
              replace H := bind_some H
              obtain ⟨y2794, hy2795, H⟩ := H
              refine oe 4 rfl ?_
              refine ec (enter20 _) (assizelaw07ztold_calls (⟨a0.N, l2664⟩ : Graph) A2665 c2666 a1 a2 a3 (memOf _) _ (Inv.start _) (hI.row 4 rfl) (hI.rowle 4 rfl) _ hy2795) ?_
              rintro _ _ ⟨A2796, c2797, rfl, hI'⟩
              replace hI := hI.call0 hI'
              clear hI'
              refine ⟨_, rfl, ?_⟩
              refine bp 5 5 (ro ?_)
              refine go_seq_join (o := o3) (fun b2799 f w => ∃ (j : Nat → Value), f = updL j [(1, vI a1), (2, vI a2), (3, vI a3), (4, vP b2 0), (9, vS A17 y15.1.length c18), (11, vI x1680), (130, vB b2799)] ∧ Inv M w [.blk b2 24 [vI a0.N, vS A0z0 a0.Edges.length c0z0], .row kEdge 41 A17 y15.1.length c18 y15.1]) (fun b2799 => assizelaw07zleast.j8 x1680 b2799) ?_ (fun hJ2800 => ?_)
              · clear H hI
                rintro b2799 _ _ ⟨_, rfl, hI⟩ H
                replace H := cond_some H
                rcases H with ⟨hc2801, H⟩ | ⟨hc2801, H⟩
                · refine gt hc2801 (go_seq (rp 1 ?_))
                  replace H := out_some H
                  obtain ⟨_, H, he3⟩ := H
                  have he := (hout3 _ he3).symm
                  subst he
                  replace H := out_some H
                  obtain ⟨_, H, he2⟩ := H
                  have he := (hout2 _ he2).symm
                  subst he
                  replace H := out_some H
                  obtain ⟨_, H, he1⟩ := H
                  have he := (hout1 _ he1).symm
                  subst he
                  replace H := Option.some.inj H
                  subst H
                  exact gr Try.func19 ⟨rfl, hI.pn⟩
                · refine ge hc2801 (go_skip (go_inBlock (rp 3 ?_)))
                  replace H := out_some H
                  obtain ⟨_, H, he3⟩ := H
                  have he := (hout3 _ he3).symm
                  subst he
                  replace H := out_some H
                  obtain ⟨_, H, he2⟩ := H
                  have he := (hout2 _ he2).symm
                  subst he
                  exact hin1 _ (Option.some.inj H).symm _ _ ⟨_, at_, hI⟩
              · refine r_in ?_
                replace H := cond_some H
                rcases H with ⟨hc2802, H⟩ | ⟨hc2802, H⟩
                · refine bx 0 [.p, .p, .c true, .p, .p, .p, .p] gO _ (bZ (bndEq hc2802)) (ro ?_)
                  exact hJ2800 true _ _ ⟨_, at_, hI.pick [0, 1] (by decide) rfl⟩ H
                · refine bx 0 [.p, .p, .c false, .p, .p, .p, .p] gO _ (bZ (bndEq hc2802)) (ro ?_)
                  exact hJ2800 ((y2794.1.length : Int) != 0) _ _ ⟨_, at_, hI.pick [0, 1] (by decide) rfl⟩ H
        · refine ge hc1682 ?_
          refine go_exit rfl ?_
          refine go_seq (rp 1 ?_)
          replace H := out_some H
          obtain ⟨_, H, he1⟩ := H
          have he := (hout1 _ he1).symm
          subst he
          replace H := Option.some.inj H
          subst H
          exact gr Try.func19 ⟨rfl, hI.pn⟩
    · refine r_in ?_
      replace H := cond_some H
      rcases H with ⟨hc2803, H⟩ | ⟨hc2803, H⟩
      · refine bx 0 [.p, .p, .c true, .p, .p, .p, .p] gO _ (bZ (bndEq hc2803)) (ro ?_)
        exact hJ24 true _ _ ⟨_, at_, hI⟩ H
      · refine bx 0 [.p, .p, .c false, .p, .p, .p, .p] gO _ (bZ (bndEq hc2803)) (ro ?_)
        exact hJ24 ((y15.1.length : Int) == 0) _ _ ⟨_, at_, hI⟩ H

/-! ### assizelaw07zRingLeastAll -/
theorem enter5 (a : Array Value) : Sem.pureRun Try.prog (callFunc 5 a) = some (.enter 5 a) := by kernel_rfl
theorem assizelaw07zRingLeastAll_calls (a0 : Graph) (A0z0 : Option Addr) (c0z0 : Nat) (a1 : Assizelaw07Masks) (M : Mem) (w : World) (hI : Inv M w []) (hr0z0 : rdS kEdge M.blk A0z0 a0.Edges) (hl0z0 : a0.Edges.length ≤ c0z0) (r : Bool) (H : assizelaw07zRingLeastAll a0 a1 = some r) :
    Calls Try.prog 5 #[.agg #[vI a0.N, vS A0z0 a0.Edges.length c0z0], .agg #[vI a1.D, vI a1.R, vI a1.Rule]] w fun e w' => e = .returned (vB r) ∧ Inv M w' [] := by
  refine cg Try.func5 ?_
  intro cs
  unfold assizelaw07zRingLeastAll at H
  refine go_seq (r_in (oe 0 rfl ?_))
  refine e_box 24 _ (.agg #[vI a0.N, vS A0z0 a0.Edges.length c0z0]) [vI a0.N, vS A0z0 a0.Edges.length c0z0] rfl (by kernel_rfl) rfl hI ?_
  clear hI
  intro b3 _ hI
  refine oe 1 rfl ?_
  refine e_box 34 _ (.agg #[vI a1.D, vI a1.R, vI a1.Rule]) [vI a1.D, vI a1.R, vI a1.Rule] rfl (by kernel_rfl) rfl hI ?_
  clear hI
  intro b4 _ hI
  refine bp 2 1 (ro (go_seq (r_in (bg 0 [.l 0 0, .p, .l 1 0, .p, .l 1 1, .p, .l 1 2, .p, .p, .p, .p] (gB (hI.grp 0 rfl) (hI.grp 1 rfl)) ?_))))
  replace H := bind_some H
  obtain ⟨y7, hy8, H⟩ := H
  refine oe 11 rfl ?_
  refine ec (enter19 _) (assizelaw07zleast_calls a0 A0z0 c0z0 a1.D a1.R (w64 (1 + (w64 ((IntKind.wrap .u64 (a1.Rule)).tmod (3 : Int))))) (memOf _) _ (Inv.start _) (hI.rd hr0z0) hl0z0 _ hy8) ?_
  rintro _ _ ⟨rfl, hI'⟩
  replace hI := hI.call0 hI'
  clear hI'
  refine ⟨_, rfl, ?_⟩
  refine bp 12 1 (ro ?_)
  replace H := Option.some.inj H
  subst H
  exact gr Try.func5 ⟨rfl, hI.pn⟩

/-! ### assizelaw07zRingSorts -/
theorem enter6 (a : Array Value) : Sem.pureRun Try.prog (callFunc 6 a) = some (.enter 6 a) := by kernel_rfl
theorem assizelaw07zRingSorts_calls (a0 : Graph) (A0z0 : Option Addr) (c0z0 : Nat) (a1 : Int) (a2 : Int) (M : Mem) (w : World) (hI : Inv M w []) (hr0z0 : rdS kEdge M.blk A0z0 a0.Edges) (hl0z0 : a0.Edges.length ≤ c0z0) (r : Bool) (H : assizelaw07zRingSorts a0 a1 a2 = some r) :
    Calls Try.prog 6 #[.agg #[vI a0.N, vS A0z0 a0.Edges.length c0z0], vI a1, vI a2] w fun e w' => e = .returned (vB r) ∧ Inv M w' [] := by
  refine cg Try.func6 ?_
  intro cs
  unfold assizelaw07zRingSorts at H
  refine go_seq (r_in (oe 0 rfl ?_))
  refine e_box 24 _ (.agg #[vI a0.N, vS A0z0 a0.Edges.length c0z0]) [vI a0.N, vS A0z0 a0.Edges.length c0z0] rfl (by kernel_rfl) rfl hI ?_
  clear hI
  intro b2 _ hI
  refine bp 1 1 (ro (go_seq (go_seq (r_in ?_))))
  replace H := bind_some H
  obtain ⟨y8, hy9, H⟩ := H
  refine oe 0 rfl ?_
  refine ec (enter8 _) (assizelaw07zalive_calls (memOf _) _ (Inv.start _) _ hy9) ?_
  rintro _ _ ⟨rfl, hI'⟩
  replace hI := hI.call0 hI'
  clear hI'
  refine ⟨_, rfl, ?_⟩
  refine bp 1 1 (ro ?_)
  replace H := cond_some H
  rcases H with ⟨hc10, H⟩ | ⟨hc10, H⟩
  · refine gt hc10 (go_seq (rp 1 ?_))
    replace H := Option.some.inj H
    subst H
    exact gr Try.func6 ⟨rfl, hI.pn⟩
  · refine ge hc10 (go_skip (go_seq (r_in (bg 0 [.l 0 0, .p] (gA (hI.grp 0 rfl)) ?_))))
    replace H := bind_some H
    obtain ⟨y15, hy16, H⟩ := H
    refine oe 2 rfl ?_
    refine ec (enter10 _) (ring_Plain_calls a0 A0z0 c0z0 a1 (memOf _) _ (Inv.start _) (hI.rd hr0z0) hl0z0 _ hy16) ?_
    rintro _ _ ⟨A17, c18, rfl, hI'⟩
    replace hI := hI.call0 hI'
    clear hI'
    refine ⟨_, rfl, ?_⟩
    refine bp 3 5 (ro (go_seq (r_in (bg 0 [.l 0 0, .p, .p] (gA (hI.grp 0 rfl)) ?_))))
    replace H := bind_some H
    obtain ⟨y23, hy24, H⟩ := H
    refine oe 3 rfl ?_
    refine ec (enter13 _) (ring_Single_calls a0 A0z0 c0z0 a1 a2 (memOf _) _ (Inv.start _) (hI.rd hr0z0) hl0z0 _ hy24) ?_
    rintro _ _ ⟨A25, c26, rfl, hI'⟩
    replace hI := hI.call0 hI'
    clear hI'
    refine ⟨_, rfl, ?_⟩
    refine bp 4 5 (ro (go_seq (r_in (bg 0 [.l 0 0, .p, .p] (gA (hI.grp 0 rfl)) ?_))))
    replace H := bind_some H
    obtain ⟨y31, hy32, H⟩ := H
    refine oe 3 rfl ?_
    refine ec (enter15 _) (ring_Spaced_calls a0 A0z0 c0z0 a1 a2 (memOf _) _ (Inv.start _) (hI.rd hr0z0) hl0z0 _ hy32) ?_
    rintro _ _ ⟨A33, c34, rfl, hI'⟩
    replace hI := hI.call0 hI'
    clear hI'
    refine ⟨_, rfl, ?_⟩
    refine bp 4 5 (ro (go_seq (r_in (bg 0 [.l 0 0, .p, .p, .p] (gA (hI.grp 0 rfl)) ?_))))
    replace H := bind_some H
    obtain ⟨y39, hy40, H⟩ := H
    refine oe 4 rfl ?_
    refine ec (enter10 _) (ring_Plain_calls a0 A0z0 c0z0 (bOr .i64 a1 a2) (memOf _) _ (Inv.start _) (hI.rd hr0z0) hl0z0 _ hy40) ?_
    rintro _ _ ⟨A41, c42, rfl, hI'⟩
    replace hI := hI.call0 hI'
    clear hI'
    refine ⟨_, rfl, ?_⟩
    refine bp 5 5 (ro (go_seq ?_))
    refine go_seq_join (o := r) (fun b54 f w => ∃ (j : Nat → Value), f = updL j [(7, vS A17 y15.1.length c18), (8, vI y15.2), (9, vS A25 y23.1.length c26), (10, vI y23.2), (11, vS A33 y31.1.length c34), (12, vI y31.2), (13, vS A41 y39.1.length c42), (14, vI y39.2), (58, vB b54)] ∧ Inv M w [.row kEdge 41 A17 y15.1.length c18 y15.1, .row kEdge 41 A25 y23.1.length c26 y23.1, .row kEdge 41 A33 y31.1.length c34 y31.1, .row kEdge 41 A41 y39.1.length c42 y39.1]) (fun b54 => assizelaw07zRingSorts.j1 y15 y23 y31 y39 b54) ?_ (fun hJ55 => ?_)
    · clear H hI
      rintro b54 _ _ ⟨_, rfl, hI⟩ H
      replace H := cond_some H
      rcases H with ⟨hc56, H⟩ | ⟨hc56, H⟩
      · refine gt hc56 (go_seq (r_in ?_))
        replace H := cond_some H
        rcases H with ⟨hc59, H⟩ | ⟨hc59, H⟩
        · replace H := cond_some H
          rcases H with ⟨hc60, H⟩ | ⟨hc60, H⟩
          · refine bx 0 [.p, .p, .p, .c true, .p, .p, .p, .p, .c true, .p, .p, .p, .p, .p] gO _ (bC (bndEq hc59) (bZ (bndEq hc60))) (ro ?_)
            replace H := Option.some.inj H
            subst H
            exact gr Try.func6 ⟨rfl, hI.pn⟩
          · refine bx 0 [.p, .p, .p, .c true, .p, .p, .p, .p, .c false, .p, .p, .p, .p, .p] gO _ (bC (bndEq hc59) (bZ (bndEq hc60))) (ro ?_)
            replace H := Option.some.inj H
            subst H
            exact gr Try.func6 ⟨rfl, hI.pn⟩
        · refine bx 0 [.p, .p, .p, .c false, .p, .p, .p, .p, .p, .p, .p, .p, .p, .p] gO _ (bZ (bndEq hc59)) (ro ?_)
          replace H := Option.some.inj H
          subst H
          exact gr Try.func6 ⟨rfl, hI.pn⟩
      · refine ge hc56 (go_skip (go_seq ?_))
        refine go_seq_join (o := r) (fun b75 f w => ∃ (j : Nat → Value), f = updL j [(11, vS A33 y31.1.length c34), (13, vS A41 y39.1.length c42), (103, vB b75)] ∧ Inv M w [.row kEdge 41 A33 y31.1.length c34 y31.1, .row kEdge 41 A41 y39.1.length c42 y39.1]) (fun b75 => assizelaw07zRingSorts.j2 y31 y39 b75) ?_ (fun hJ76 => ?_)
        · clear H hI
          rintro b75 _ _ ⟨_, rfl, hI⟩ H
          replace H := cond_some H
          rcases H with ⟨hc77, H⟩ | ⟨hc77, H⟩
          · refine gt hc77 (go_seq (rp 1 ?_))
            replace H := Option.some.inj H
            subst H
            exact gr Try.func6 ⟨rfl, hI.pn⟩
          · refine ge hc77 (go_skip (go_seq (r_in ?_)))
            replace H := cond_some H
            rcases H with ⟨hc80, H⟩ | ⟨hc80, H⟩
            · refine bx 0 [.p, .p, .p, .c true, .p, .p, .p, .p, .p, .p, .p, .p, .p, .p, .p, .p] gO _ (bZ (bndEq hc80)) (ro ?_)
              replace H := Option.some.inj H
              subst H
              exact gr Try.func6 ⟨rfl, hI.pn⟩
            · replace H := cond_some H
              rcases H with ⟨hc81, H⟩ | ⟨hc81, H⟩
              · refine bx 0 [.p, .p, .p, .c false, .p, .p, .p, .c true, .p, .p, .p, .p, .p, .p, .p, .p] gO _ (bC (bndEq hc80) (bZ (bndEq hc81))) (ro ?_)
                replace H := Option.some.inj H
                subst H
                exact gr Try.func6 ⟨rfl, hI.pn⟩
              · refine bx 0 [.p, .p, .p, .c false, .p, .p, .p, .c false, .p, .p, .p, .p, .p, .p, .p, .p] gO _ (bC (bndEq hc80) (bZ (bndEq hc81))) (ro ?_)
                replace H := Option.some.inj H
                subst H
                exact gr Try.func6 ⟨rfl, hI.pn⟩
        · refine r_in ?_
          replace H := cond_some H
          rcases H with ⟨hc82, H⟩ | ⟨hc82, H⟩
          · replace H := cond_some H
            rcases H with ⟨hc83, H⟩ | ⟨hc83, H⟩
            · refine bx 0 [.p, .p, .p, .c true, .p, .p, .p, .c true, .p, .p, .p, .p, .p, .p, .p, .p, .p, .p, .p, .p, .p, .p, .p, .p, .p, .p, .p, .p, .p, .p, .p, .p] gO _ (bC (bndEq hc82) (bZ (bndEq hc83))) (ro ?_)
              exact hJ76 true _ _ ⟨_, at_, hI.pick [2, 3] (by decide) rfl⟩ H
            · replace H := cond_some H
              rcases H with ⟨hc84, H⟩ | ⟨hc84, H⟩
              · refine bx 0 [.p, .p, .p, .c true, .p, .p, .p, .c false, .p, .p, .p, .p, .p, .p, .p, .c true, .p, .p, .p, .p, .p, .p, .p, .p, .p, .p, .p, .p, .p, .p, .p, .p] gO _ (bC (bndEq hc82) (bC (bndEq hc83) (bZ (bndEq hc84)))) (ro ?_)
                exact hJ76 true _ _ ⟨_, at_, hI.pick [2, 3] (by decide) rfl⟩ H
              · replace H := cond_some H
                rcases H with ⟨hc85, H⟩ | ⟨hc85, H⟩
                · refine bx 0 [.p, .p, .p, .c true, .p, .p, .p, .c false, .p, .p, .p, .p, .p, .p, .p, .c false, .p, .p, .p, .c true, .p, .p, .p, .c false, .p, .p, .p, .p, .p, .p, .p, .p] gO _ (bC (bndEq hc82) (bC (bndEq hc83) (bC (bndEq hc84) (bC (bndEq hc85) (bZ (bndEq hc83)))))) (ro ?_)
                  exact hJ76 (decide ((y31.1.length : Int) > (y23.1.length : Int))) _ _ ⟨_, at_, hI.pick [2, 3] (by decide) rfl⟩ H
                · refine bx 0 [.p, .p, .p, .c true, .p, .p, .p, .c false, .p, .p, .p, .p, .p, .p, .p, .c false, .p, .p, .p, .c false, .p, .p, .p, .p, .p, .p, .p, .p, .p, .p, .p, .p] gO _ (bC (bndEq hc82) (bC (bndEq hc83) (bC (bndEq hc84) (bZ (bndEq hc85))))) (ro ?_)
                  exact hJ76 false _ _ ⟨_, at_, hI.pick [2, 3] (by decide) rfl⟩ H
          · replace H := cond_some H
            rcases H with ⟨hc86, H⟩ | ⟨hc86, H⟩
            · replace H := cond_some H
              rcases H with ⟨hc87, H⟩ | ⟨hc87, H⟩
              · refine bx 0 [.p, .p, .p, .c false, .p, .p, .p, .p, .p, .p, .p, .p, .p, .p, .p, .p, .p, .p, .p, .c true, .p, .p, .p, .c true, .p, .p, .p, .p, .p, .p, .p, .p] gO _ (bC (bndEq hc82) (bC (bndEq hc86) (bZ (bndEq hc87)))) (ro ?_)
                exact hJ76 true _ _ ⟨_, at_, hI.pick [2, 3] (by decide) rfl⟩ H
              · refine bx 0 [.p, .p, .p, .c false, .p, .p, .p, .p, .p, .p, .p, .p, .p, .p, .p, .p, .p, .p, .p, .c true, .p, .p, .p, .c false, .p, .p, .p, .p, .p, .p, .p, .p] gO _ (bC (bndEq hc82) (bC (bndEq hc86) (bZ (bndEq hc87)))) (ro ?_)
                exact hJ76 (decide ((y31.1.length : Int) > (y23.1.length : Int))) _ _ ⟨_, at_, hI.pick [2, 3] (by decide) rfl⟩ H
            · refine bx 0 [.p, .p, .p, .c false, .p, .p, .p, .p, .p, .p, .p, .p, .p, .p, .p, .p, .p, .p, .p, .c false, .p, .p, .p, .p, .p, .p, .p, .p, .p, .p, .p, .p] gO _ (bC (bndEq hc82) (bZ (bndEq hc86))) (ro ?_)
              exact hJ76 false _ _ ⟨_, at_, hI.pick [2, 3] (by decide) rfl⟩ H
    · refine r_in ?_
      replace H := cond_some H
      rcases H with ⟨hc88, H⟩ | ⟨hc88, H⟩
      · refine bx 0 [.p, .p, .c true, .p, .p, .p, .p, .p, .p, .p, .p, .p, .p, .p] gO _ (bZ (bndEq hc88)) (ro ?_)
        exact hJ55 true _ _ ⟨_, at_, hI.pick [1, 2, 3, 4] (by decide) rfl⟩ H
      · replace H := cond_some H
        rcases H with ⟨hc89, H⟩ | ⟨hc89, H⟩
        · refine bx 0 [.p, .p, .c false, .p, .p, .p, .c true, .p, .p, .p, .p, .p, .p, .p] gO _ (bC (bndEq hc88) (bZ (bndEq hc89))) (ro ?_)
          exact hJ55 true _ _ ⟨_, at_, hI.pick [1, 2, 3, 4] (by decide) rfl⟩ H
        · replace H := cond_some H
          rcases H with ⟨hc90, H⟩ | ⟨hc90, H⟩
          · refine bx 0 [.p, .p, .c false, .p, .p, .p, .c false, .p, .p, .p, .c true, .p, .p, .p] gO _ (bC (bndEq hc88) (bC (bndEq hc89) (bZ (bndEq hc90)))) (ro ?_)
            exact hJ55 true _ _ ⟨_, at_, hI.pick [1, 2, 3, 4] (by decide) rfl⟩ H
          · refine bx 0 [.p, .p, .c false, .p, .p, .p, .c false, .p, .p, .p, .c false, .p, .p, .p] gO _ (bC (bndEq hc88) (bC (bndEq hc89) (bZ (bndEq hc90)))) (ro ?_)
            exact hJ55 (y39.2 != 0) _ _ ⟨_, at_, hI.pick [1, 2, 3, 4] (by decide) rfl⟩ H

/-! ### assizelaw07zRingTurned -/
theorem enter7 (a : Array Value) : Sem.pureRun Try.prog (callFunc 7 a) = some (.enter 7 a) := by kernel_rfl
theorem assizelaw07zRingTurned_calls (a0 : Graph) (A0z0 : Option Addr) (c0z0 : Nat) (a1 : Int) (a2 : Int) (M : Mem) (w : World) (hI : Inv M w []) (hr0z0 : rdS kEdge M.blk A0z0 a0.Edges) (hl0z0 : a0.Edges.length ≤ c0z0) (r : Bool) (H : assizelaw07zRingTurned a0 a1 a2 = some r) :
    Calls Try.prog 7 #[.agg #[vI a0.N, vS A0z0 a0.Edges.length c0z0], vI a1, vI a2] w fun e w' => e = .returned (vB r) ∧ Inv M w' [] := by
  refine cg Try.func7 ?_
  intro cs
  unfold assizelaw07zRingTurned at H
  refine go_seq (r_in (oe 0 rfl ?_))
  refine e_box 24 _ (.agg #[vI a0.N, vS A0z0 a0.Edges.length c0z0]) [vI a0.N, vS A0z0 a0.Edges.length c0z0] rfl (by kernel_rfl) rfl hI ?_
  clear hI
  intro b2 _ hI
  refine bp 1 1 (ro (go_seq (go_seq (r_in ?_))))
  replace H := bind_some H
  obtain ⟨y8, hy9, H⟩ := H
  refine oe 0 rfl ?_
  refine ec (enter8 _) (assizelaw07zalive_calls (memOf _) _ (Inv.start _) _ hy9) ?_
  rintro _ _ ⟨rfl, hI'⟩
  replace hI := hI.call0 hI'
  clear hI'
  refine ⟨_, rfl, ?_⟩
  refine bp 1 1 (ro ?_)
  replace H := cond_some H
  rcases H with ⟨hc10, H⟩ | ⟨hc10, H⟩
  · refine gt hc10 (go_seq (rp 1 ?_))
    replace H := Option.some.inj H
    subst H
    exact gr Try.func7 ⟨rfl, hI.pn⟩
  · refine ge hc10 (go_skip (go_seq (r_in (bg 0 [.p, .l 0 0, .p] (gA (hI.grp 0 rfl)) (oe 3 rfl ?_)))))
    refine e_alloc 24 (.agg #[vI 0, vS none 0 0]) [vI 0, vS none 0 0] rfl (by kernel_rfl) rfl hI ?_
    clear hI
    intro b12 _ hI
    refine oe 4 rfl ?_
    refine e_store 24 _ _ 1 b12 24 [vI 0, vS none 0 0] [vI a0.N, vS none 0 0] 0 (.agg #[vI a0.N, vS none 0 0]) rfl (by kernel_rfl) (by kernel_rfl) (by kernel_rfl) (by kernel_rfl) hI rfl (by kernel_rfl) (by kernel_rfl) ?_
    clear hI
    intro _ hI
    refine ro (go_seq (go_seq (rp 1 (go_block ?_))))
    refine go_iter (assizelaw07zRingTurned.s1 a0 a1 a2) (fun (l161, x164) f w => ∃ (j : Nat → Value) (A162 : Option Addr) (c163 : Nat), f = updL j [(1, vI a1), (2, vI a2), (3, vP b2 0), (7, vP b12 0), (8, vI x164)] ∧ Inv M w [.blk b2 24 [vI a0.N, vS A0z0 a0.Edges.length c0z0], .blk b12 24 [vI a0.N, vS A162 l161.length c163], .row kEdge 41 A162 l161.length c163 l161]) H ⟨_, none, 0, at_, (hI.nilrow kEdge 41)⟩ ?_
    clear H hI
    rintro ⟨l161, x164⟩ _ _ o1 H ⟨_, A162, c163, rfl, hI⟩ hin1 hout1
    refine go_seq (go_seq (rg [.p, .p, .l 0 1, .p, .p] (gA (hI.grp 0 rfl)) ?_))
    replace H := cond_some H
    rcases H with ⟨hc166, H⟩ | ⟨hc166, H⟩
    · refine gt hc166 (go_skip (go_seq (go_block (go_seq (r_in ?_)))))
      replace H := must_some H
      obtain ⟨g189, H⟩ := H
      obtain ⟨b190, q191, rfl, _⟩ := rdS.fopen hr0z0 rfl g189
      refine bx 0 [.p, .l 0 1, .p, .x, .l 1 0] (gB (hI.grp 0 rfl) (hI.lies (rdS.flook hr0z0 rfl g189))) _ (bZ g189) (oe 5 rfl ?_)
      refine e_alloc 41 (.agg #[vI 0, vI 0, vI 0, vI 0]) [vI 0, vI 0, vI 0, vI 0] rfl (by kernel_rfl) rfl hI ?_
      clear hI
      intro b192 _ hI
      refine oe 6 rfl ?_
      refine e_store 41 _ _ 3 b192 41 [vI 0, vI 0, vI 0, vI 0] [vI ((idx a0.Edges x164).From), vI ((idx a0.Edges x164).To), vI ((idx a0.Edges x164).Kind), vI ((idx a0.Edges x164).Key)] 0 (.agg #[vI ((idx a0.Edges x164).From), vI ((idx a0.Edges x164).To), vI ((idx a0.Edges x164).Kind), vI ((idx a0.Edges x164).Key)]) rfl (by kernel_rfl) (by kernel_rfl) (by kernel_rfl) (by kernel_rfl) hI rfl (by kernel_rfl) (by kernel_rfl) ?_
      clear hI
      intro _ hI
      refine ro (go_seq (r_in (bg 0 [.p, .l 0 1, .p, .l 0 0, .p] (gA (hI.grp 3 rfl)) (oe 5 rfl ?_))))
      refine e_store 3 _ _ 3 b192 41 [vI ((idx a0.Edges x164).From), vI ((idx a0.Edges x164).To), vI ((idx a0.Edges x164).Kind), vI ((idx a0.Edges x164).Key)] [vI ((idx a0.Edges x164).To), vI ((idx a0.Edges x164).To), vI ((idx a0.Edges x164).Kind), vI ((idx a0.Edges x164).Key)] 0 (vI ((idx a0.Edges x164).To)) rfl (by kernel_rfl) (by kernel_rfl) (by kernel_rfl) (by kernel_rfl) hI rfl (by kernel_rfl) (by kernel_rfl) ?_
      clear hI
      intro _ hI
      refine bp 6 1 (oe 7 rfl ?_)
      refine e_store 3 _ _ 3 b192 41 [vI ((idx a0.Edges x164).To), vI ((idx a0.Edges x164).To), vI ((idx a0.Edges x164).Kind), vI ((idx a0.Edges x164).Key)] [vI ((idx a0.Edges x164).To), vI ((idx a0.Edges x164).From), vI ((idx a0.Edges x164).Kind), vI ((idx a0.Edges x164).Key)] 1 (vI ((idx a0.Edges x164).From)) rfl (by kernel_rfl) (by kernel_rfl) (by kernel_rfl) (by kernel_rfl) hI rfl (by kernel_rfl) (by kernel_rfl) ?_
      clear hI
      intro _ hI
      refine ro (r_in (bg 0 [.p, .l 0 1, .l 1 0] (gB (hI.grp 1 rfl) (hI.grp 3 rfl)) (oe 3 rfl ?_)))
      refine e_partsS 22 41 1 _ _ _ #[vI ((idx a0.Edges x164).To), vI ((idx a0.Edges x164).From), vI ((idx a0.Edges x164).Kind), vI ((idx a0.Edges x164).Key)] [vI ((idx a0.Edges x164).To), vI ((idx a0.Edges x164).From), vI ((idx a0.Edges x164).Kind), vI ((idx a0.Edges x164).Key)] rfl rfl rfl rfl (by kernel_rfl) (by kernel_rfl) (by kernel_rfl) (by kernel_rfl) hI ?_
      clear hI
      intro b193 _ hs194 hI
      replace H := must_some H
      obtain ⟨g195, H⟩ := H
      refine oe 4 rfl ?_
      refine e_append kEdge 22 0 41 _ _ _ _ A162 l161.length c163 l161 ([(⟨(idx a0.Edges x164).To, (idx a0.Edges x164).From, (idx a0.Edges x164).Kind, (idx a0.Edges x164).Key⟩ : Edge)] : List Edge) b193 0 1 1 [vI ((idx a0.Edges x164).To), vI ((idx a0.Edges x164).From), vI ((idx a0.Edges x164).Kind), vI ((idx a0.Edges x164).Key)] 2 [] [0, 1, 3, 4] [] [.blk b2 24 [vI a0.N, vS (some ⟨b190, q191, none⟩) a0.Edges.length c0z0], .blk b12 24 [vI a0.N, vS A162 l161.length c163], .blk b192 41 [vI ((idx a0.Edges x164).To), vI ((idx a0.Edges x164).From), vI ((idx a0.Edges x164).Kind), vI ((idx a0.Edges x164).Key)], .blk b193 41 [vI ((idx a0.Edges x164).To), vI ((idx a0.Edges x164).From), vI ((idx a0.Edges x164).Kind), vI ((idx a0.Edges x164).Key)]] rfl (by kernel_rfl) (by kernel_rfl) rfl rfl rfl rfl rfl (by kernel_rfl) hI (by decide) rfl rfl rfl (hI.grp 4 rfl) g195 (mks_cons (mk_flat (k := kEdge) (⟨(idx a0.Edges x164).To, (idx a0.Edges x164).From, (idx a0.Edges x164).Kind, (idx a0.Edges x164).Key⟩ : Edge) [vI ((idx a0.Edges x164).To), vI ((idx a0.Edges x164).From), vI ((idx a0.Edges x164).Kind), vI ((idx a0.Edges x164).Key)] rfl) mks_nil) ?_
      clear hI
      intro A196 c197 _ hI
      replace hI := hI.pick (L' := [.row kEdge 41 A196 ((l161 ++ ([(⟨(idx a0.Edges x164).To, (idx a0.Edges x164).From, (idx a0.Edges x164).Kind, (idx a0.Edges x164).Key⟩ : Edge)] : List Edge)).length) c197 (l161 ++ ([(⟨(idx a0.Edges x164).To, (idx a0.Edges x164).From, (idx a0.Edges x164).Kind, (idx a0.Edges x164).Key⟩ : Edge)] : List Edge)), .blk b2 24 [vI a0.N, vS (some ⟨b190, q191, none⟩) a0.Edges.length c0z0], .blk b12 24 [vI a0.N, vS A162 l161.length c163], .blk b192 41 [vI ((idx a0.Edges x164).To), vI ((idx a0.Edges x164).From), vI ((idx a0.Edges x164).Kind), vI ((idx a0.Edges x164).Key)]]) [0, 1, 2, 3] (by decide) rfl
      refine bp 5 1 (oe 6 rfl ?_)
      refine e_store 22 _ _ 2 b12 24 [vI a0.N, vS A162 l161.length c163] [vI a0.N, vS A196 ((l161 ++ ([(⟨(idx a0.Edges x164).To, (idx a0.Edges x164).From, (idx a0.Edges x164).Kind, (idx a0.Edges x164).Key⟩ : Edge)] : List Edge)).length) c197] 1 (vS A196 ((l161 ++ ([(⟨(idx a0.Edges x164).To, (idx a0.Edges x164).From, (idx a0.Edges x164).Kind, (idx a0.Edges x164).Key⟩ : Edge)] : List Edge)).length) c197) rfl (by kernel_rfl) (by kernel_rfl) (by kernel_rfl) (by kernel_rfl) hI rfl (by kernel_rfl) (by kernel_rfl) ?_
      clear hI
      intro _ hI
      refine ro (go_inBlock (rp 3 ?_))
      exact hin1 _ (Option.some.inj H).symm _ _ ⟨_, A196, c197, at_, hI.pick [1, 2, 0] (by decide) rfl⟩
    · refine ge hc166 ?_
      refine go_exit rfl ?_
      refine go_seq (go_seq (rp 1 (go_block ?_)))
      refine go_iter (assizelaw07zRingTurned.s2 a0 a1 a2 l161) (fun x311 f w => ∃ (j : Nat → Value), f = updL j [(1, vI a1), (2, vI a2), (3, vP b2 0), (7, vP b12 0), (10, vI x311)] ∧ Inv M w [.blk b2 24 [vI a0.N, vS A0z0 a0.Edges.length c0z0], .blk b12 24 [vI a0.N, vS A162 l161.length c163], .row kEdge 41 A162 l161.length c163 l161]) H ⟨_, at_, hI⟩ ?_
      clear H hI
      rintro x311 _ _ o2 H ⟨_, rfl, hI⟩ hin2 hout2
      refine go_seq (go_seq (rp 2 ?_))
      replace H := cond_some H
      rcases H with ⟨hc313, H⟩ | ⟨hc313, H⟩
      · refine gt hc313 (go_skip (go_seq (go_block (go_seq (r_in (bg 0 [.l 0 0, .p, .p, .p] (gA (hI.grp 0 rfl)) ?_))))))
        replace H := bind_some H
        obtain ⟨y340, hy341, H⟩ := H
        refine oe 4 rfl ?_
        refine ec (enter20 _) (assizelaw07ztold_calls a0 A0z0 c0z0 a1 a2 x311 (memOf _) _ (Inv.start _) (hI.rd hr0z0) hl0z0 _ hy341) ?_
        rintro _ _ ⟨A342, c343, rfl, hI'⟩
        replace hI := hI.call0 hI'
        clear hI'
        refine ⟨_, rfl, ?_⟩
        refine bp 5 5 (ro (go_seq (r_in (bg 0 [.l 0 0, .p, .p, .p] (gA (hI.grp 1 rfl)) ?_))))
        replace H := bind_some H
        obtain ⟨y348, hy349, H⟩ := H
        refine oe 4 rfl ?_
        refine ec (enter20 _) (assizelaw07ztold_calls (⟨a0.N, l161⟩ : Graph) A162 c163 a1 a2 x311 (memOf _) _ (Inv.start _) (hI.row 2 rfl) (hI.rowle 2 rfl) _ hy349) ?_
        rintro _ _ ⟨A350, c351, rfl, hI'⟩
        replace hI := hI.call0 hI'
        clear hI'
        refine ⟨_, rfl, ?_⟩
        refine bp 5 5 (ro ?_)
        refine go_seq_join (o := o2) (fun b353 f w => ∃ (j : Nat → Value), f = updL j [(1, vI a1), (2, vI a2), (3, vP b2 0), (7, vP b12 0), (10, vI x311), (73, vB b353)] ∧ Inv M w [.blk b2 24 [vI a0.N, vS A0z0 a0.Edges.length c0z0], .blk b12 24 [vI a0.N, vS A162 l161.length c163], .row kEdge 41 A162 l161.length c163 l161]) (fun b353 => assizelaw07zRingTurned.j3 x311 b353) ?_ (fun hJ354 => ?_)
        · clear H hI
          rintro b353 _ _ ⟨_, rfl, hI⟩ H
          replace H := cond_some H
          rcases H with ⟨hc355, H⟩ | ⟨hc355, H⟩
          · refine gt hc355 (go_seq (rp 1 ?_))
            replace H := out_some H
            obtain ⟨_, H, he2⟩ := H
            have he := (hout2 _ he2).symm
            subst he
            replace H := out_some H
            obtain ⟨_, H, he1⟩ := H
            have he := (hout1 _ he1).symm
            subst he
            replace H := Option.some.inj H
            subst H
            exact gr Try.func7 ⟨rfl, hI.pn⟩
          · refine ge hc355 (go_skip (go_inBlock (rp 3 ?_)))
            exact hin2 _ (Option.some.inj H).symm _ _ ⟨_, at_, hI⟩
        · refine r_in ?_
          replace H := cond_some H
          rcases H with ⟨hc356, H⟩ | ⟨hc356, H⟩
          · refine bx 0 [.p, .p, .p, .c true, .p, .p, .p, .p, .p, .p] gO _ (bZ (bndEq hc356)) (ro ?_)
            exact hJ354 true _ _ ⟨_, at_, hI.pick [0, 1, 2] (by decide) rfl⟩ H
          · refine bx 0 [.p, .p, .p, .c false, .p, .p, .p, .p, .p, .p] gO _ (bZ (bndEq hc356)) (ro ?_)
            exact hJ354 ((y340.1.length : Int) != (y348.1.length : Int)) _ _ ⟨_, at_, hI.pick [0, 1, 2] (by decide) rfl⟩ H
      · refine ge hc313 ?_
        refine go_exit rfl ?_
        refine go_seq (rp 1 ?_)
        replace H := out_some H
        obtain ⟨_, H, he2⟩ := H
        have he := (hout2 _ he2).symm
        subst he
        replace H := out_some H
        obtain ⟨_, H, he1⟩ := H
        have he := (hout1 _ he1).symm
        subst he
        replace H := Option.some.inj H
        subst H
        exact gr Try.func7 ⟨rfl, hI.pn⟩

end Go.Proofs.YtncapkloanfmnaaT
