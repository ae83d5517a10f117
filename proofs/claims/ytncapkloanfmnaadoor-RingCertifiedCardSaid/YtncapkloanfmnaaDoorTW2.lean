/- The walks, part 2: each call computes its plain function. -/
import Derived.Test.YtncapkloanfmnaaDoorTW1
import Derived.Shelf.Spec.TrailingZeros
import Derived.Test.YtncapkloanfmnaaDoorProg
namespace Go.Proofs.YtncapkloanfmnaaDoorT
open Go Go.Proofs Go.Shelf Go.Proofs.YtncapkloanfmnaaDoorE
set_option linter.unusedVariables false
set_option linter.unusedSimpArgs false
set_option maxHeartbeats 0
set_option maxRecDepth 4096
/-! ### ring_net_edges_ring_Single_1 -/
theorem ring_net_edges_ring_Single_1zcalls (b0z : Nat) (a0 : RingNet) (A0z0 : Option Addr) (c0z0 : Nat) (A0z1 : Option Addr) (c0z1 : Nat) (A1z : Option Addr) (c1z : Nat) (a1 : List Int) (M : Mem) (w : World) (hI : Inv M w []) (hb0z : Lies M.blk (b0z, 0, [vI a0.g.N, vS A0z0 a0.g.Edges.length c0z0, vS A0z1 a0.links.length c0z1])) (hr0z0 : rdS kEdge M.blk A0z0 a0.g.Edges) (hl0z0 : a0.g.Edges.length ≤ c0z0) (hr0z1 : rdS (tSlice 85 kRingLink) M.blk A0z1 a0.links) (hl0z1 : a0.links.length ≤ c0z1) (hr1z : rdS (tInt .i64) M.blk A1z a1) (hl1z : a1.length ≤ c1z) (r : List Edge) (H : ring_net_edges_ring_Single_1 a0 a1 = some r) :
    Calls Tryd.prog 47 #[vP b0z 0, vS A1z a1.length c1z, .func (.func 48) #[] #[]] w fun e w' => ∃ (A422 : Option Addr), ∃ (c423 : Nat), e = .returned (vS A422 r.length c423) ∧ Inv M w' [.row kEdge 40 A422 r.length c423 r] := by
  refine cg Tryd.func47 ?_
  intro cs
  unfold ring_net_edges_ring_Single_1 at H
  refine go_seq (rp 1 (go_seq (rp 1 (go_seq (go_seq (rp 3 (go_block ?_)))))))
  refine go_iter (ring_net_edges_ring_Single_1.s1 a0 a1) (fun (l309, x312) f w => ∃ (j : Nat → Value) (A310 : Option Addr) (c311 : Nat), f = updL j [(0, vP b0z 0), (1, vS A1z a1.length c1z), (2, .func (.func 48) #[] #[]), (7, vS A310 l309.length c311), (11, vS A1z a1.length c1z), (12, vI (a1.length : Int)), (13, vI x312)] ∧ Inv M w [.row kEdge 40 A310 l309.length c311 l309]) H ⟨_, none, 0, at_, (hI.nilrow kEdge 40)⟩ ?_
  clear H hI
  rintro ⟨l309, x312⟩ _ _ o1 H ⟨_, A310, c311, rfl, hI⟩ hin1 hout1
  refine go_seq (rp 1 (go_seq ?_))
  replace H := cond_some H
  rcases H with ⟨hc314, H⟩ | ⟨hc314, H⟩
  · refine gt hc314 (go_skip (go_seq (go_block (go_seq (r_in ?_)))))
    replace H := must_some H
    obtain ⟨g376, H⟩ := H
    obtain ⟨b377, q378, rfl, _⟩ := rdS.fopen hr1z rfl g376
    refine bx 0 [.p, .x, .l 0 0, .p, .p] (gA (hI.lies (rdS.flook hr1z rfl g376))) _ (bZ g376) (ro (go_seq ?_))
    replace H := must_some H
    obtain ⟨g395, H⟩ := H
    obtain ⟨b399, q400, rfl, cs398, hk397, hg396⟩ := rdS.open hr0z1 rfl g395
    obtain ⟨A401, c402, rfl, hl404, hr403⟩ := hk397
    replace H := must_some H
    obtain ⟨g405, H⟩ := H
    replace H := must_some H
    obtain ⟨g406, H⟩ := H
    replace H := must_some H
    obtain ⟨g407, H⟩ := H
    obtain ⟨b408, q409, rfl, _⟩ := rdS.fopen hr403 rfl g407
    refine go_held (fun w => Inv M w [.row kEdge 40 A310 l309.length c311 l309]) (by kernel_rfl) ?_
    replace hI := hI.drew'
    refine hx (n := 2) [(0, .p), (1, .p), (2, .p), (3, .l 0 2), (4, .p), (5, .x), (6, .l 1 0), (7, .p), (8, .p), (9, .p), (10, .p), (11, .p), (12, .x), (13, .x), (14, .l 2 0), (15, .x), (16, .l 3 0)] (fun _ hS => (gD (hS.lies hb0z) (hS.lies hg396) (hS.lies (rdS.flook hr1z rfl g406)) (hS.lies (rdS.flook hr403 rfl g407)))) hI _ (bC g395 (bC (ndEq g405) (bC g406 (bZ g407)))) ?_
    refine ho (n := 1) 17 rfl (e_alloc 85 (.agg #[vI 0, vI 0]) [vI 0, vI 0] rfl (by kernel_rfl) rfl hI ?_)
    clear hI
    intro b410 _ hI
    refine ⟨(hI.pk [0]), ?_⟩
    refine ho (n := 0) 18 rfl (e_store 85 _ _ 1 b410 85 [vI 0, vI 0] [vI ((idx (idx a0.links (idx a1 x312)) (idx a1 ((w64 (x312 + 1)).tmod (a1.length : Int)))).tight), vI ((idx (idx a0.links (idx a1 x312)) (idx a1 ((w64 (x312 + 1)).tmod (a1.length : Int)))).loose)] 0 (.agg #[vI ((idx (idx a0.links (idx a1 x312)) (idx a1 ((w64 (x312 + 1)).tmod (a1.length : Int)))).tight), vI ((idx (idx a0.links (idx a1 x312)) (idx a1 ((w64 (x312 + 1)).tmod (a1.length : Int)))).loose)]) rfl (by kernel_rfl) (by kernel_rfl) (by kernel_rfl) (by kernel_rfl) hI rfl (by kernel_rfl) (by kernel_rfl) ?_)
    clear hI
    intro _ hI
    refine ⟨(hI.pk [0]), ?_⟩
    refine hd ?_
    replace H := bind_some H
    obtain ⟨y411, hy412, H⟩ := H
    replace H := must_some H
    obtain ⟨g413, H⟩ := H
    obtain ⟨b414, q415, rfl, _⟩ := rdS.fopen hr0z0 rfl g413
    replace H := must_some H
    obtain ⟨g418, H⟩ := H
    refine go_held (fun w => Inv M w [.blk b410 85 [vI ((idx (idx a0.links (idx a1 x312)) (idx a1 ((w64 (x312 + 1)).tmod (a1.length : Int)))).tight), vI ((idx (idx a0.links (idx a1 x312)) (idx a1 ((w64 (x312 + 1)).tmod (a1.length : Int)))).loose)]]) (by kernel_rfl) ?_
    replace hI := hI.drew'
    refine hg (n := 7) [(0, .p), (1, .p), (2, .p), (3, .p), (4, .p), (5, .l 0 1), (6, .p), (7, .l 1 0), (8, .p)] (fun _ hS => (gB (hS.lies hb0z) (hS.grp 0 rfl))) (hI.pk [1]) ?_
    refine ho (n := 6) 9 rfl (ec (enter48 _) (ring_Single_1zcalls (idx (idx a0.links (idx a1 x312)) (idx a1 ((w64 (x312 + 1)).tmod (a1.length : Int)))) x312 (memOf _) _ (Inv.start _) _ hy412) ?_)
    rintro _ _ ⟨rfl, hI'⟩
    replace hI := hI.call0 hI'
    clear hI'
    refine ⟨_, rfl, ?_⟩
    refine ⟨(hI.pk [1]), ?_⟩
    refine hx (n := 3) [(10, .p), (11, .x), (12, .l 0 0)] (fun _ hS => (gA (hS.lies (rdS.flook hr0z0 rfl g413)))) (hI.pk [1]) _ (bZ g413) ?_
    refine ho (n := 2) 13 rfl (e_partsS 22 40 1 _ _ _ #[vI ((idx a0.g.Edges (w64 (y411 - 1))).From), vI ((idx a0.g.Edges (w64 (y411 - 1))).To), vI ((idx a0.g.Edges (w64 (y411 - 1))).Kind), vI ((idx a0.g.Edges (w64 (y411 - 1))).Key)] [vI ((idx a0.g.Edges (w64 (y411 - 1))).From), vI ((idx a0.g.Edges (w64 (y411 - 1))).To), vI ((idx a0.g.Edges (w64 (y411 - 1))).Kind), vI ((idx a0.g.Edges (w64 (y411 - 1))).Key)] rfl rfl rfl rfl (by kernel_rfl) (by kernel_rfl) (by kernel_rfl) (by kernel_rfl) hI ?_)
    clear hI
    intro b416 _ hs417 hI
    refine ⟨(hI.pk [1]), ?_⟩
    refine ho (n := 1) 14 rfl (e_append kEdge 22 0 40 _ _ _ _ A310 l309.length c311 l309 ([(idx a0.g.Edges (w64 (y411 - 1)))] : List Edge) b416 0 1 1 [vI ((idx a0.g.Edges (w64 (y411 - 1))).From), vI ((idx a0.g.Edges (w64 (y411 - 1))).To), vI ((idx a0.g.Edges (w64 (y411 - 1))).Kind), vI ((idx a0.g.Edges (w64 (y411 - 1))).Key)] 0 [] [1, 2] [] [.blk b410 85 [vI ((idx (idx a0.links (idx a1 x312)) (idx a1 ((w64 (x312 + 1)).tmod (a1.length : Int)))).tight), vI ((idx (idx a0.links (idx a1 x312)) (idx a1 ((w64 (x312 + 1)).tmod (a1.length : Int)))).loose)], .blk b416 40 [vI ((idx a0.g.Edges (w64 (y411 - 1))).From), vI ((idx a0.g.Edges (w64 (y411 - 1))).To), vI ((idx a0.g.Edges (w64 (y411 - 1))).Kind), vI ((idx a0.g.Edges (w64 (y411 - 1))).Key)]] rfl (by kernel_rfl) (by kernel_rfl) rfl rfl rfl rfl rfl (by kernel_rfl) hI (by decide) rfl rfl rfl (hI.grp 2 rfl) g418 (mks_cons (mk_flat (k := kEdge) (idx a0.g.Edges (w64 (y411 - 1))) [vI ((idx a0.g.Edges (w64 (y411 - 1))).From), vI ((idx a0.g.Edges (w64 (y411 - 1))).To), vI ((idx a0.g.Edges (w64 (y411 - 1))).Kind), vI ((idx a0.g.Edges (w64 (y411 - 1))).Key)] rfl) mks_nil) ?_)
    clear hI
    intro A419 c420 _ hI
    replace hI := hI.pick (L' := [.row kEdge 40 A419 ((l309 ++ ([(idx a0.g.Edges (w64 (y411 - 1)))] : List Edge)).length) c420 (l309 ++ ([(idx a0.g.Edges (w64 (y411 - 1)))] : List Edge)), .blk b410 85 [vI ((idx (idx a0.links (idx a1 x312)) (idx a1 ((w64 (x312 + 1)).tmod (a1.length : Int)))).tight), vI ((idx (idx a0.links (idx a1 x312)) (idx a1 ((w64 (x312 + 1)).tmod (a1.length : Int)))).loose)]]) [0, 1] (by decide) rfl
    refine ⟨(hI.pk [1]), ?_⟩
    refine hg (n := 0) [(15, .p)] (fun _ hS => gO) (hI.pk [1]) (hd (go_inBlock (rp 2 ?_)))
    exact hin1 _ (Option.some.inj H).symm _ _ ⟨_, A419, c420, at_, hI.pick [0] (by decide) rfl⟩
  · refine ge hc314 ?_
    refine go_exit rfl ?_
    refine go_seq (rp 2 ?_)
    replace H := out_some H
    obtain ⟨_, H, he1⟩ := H
    have he := (hout1 _ he1).symm
    subst he
    replace H := Option.some.inj H
    subst H
    exact gr Tryd.func47 ⟨A310, c311, rfl, hI⟩

/-! ### ring_Single -/
theorem enter39 (a : Array Value) : Sem.pureRun Tryd.prog (callFunc 39 a) = some (.enter 39 a) := by kernel_rfl
theorem ring_Single_calls (a0 : Graph) (A0z0 : Option Addr) (c0z0 : Nat) (a1 : Int) (a2 : Int) (M : Mem) (w : World) (hI : Inv M w []) (hr0z0 : rdS kEdge M.blk A0z0 a0.Edges) (hl0z0 : a0.Edges.length ≤ c0z0) (r : List Edge × Int) (H : ring_Single a0 a1 a2 = some r) :
    Calls Tryd.prog 39 #[.agg #[vI a0.N, vS A0z0 a0.Edges.length c0z0], vI a1, vI a2] w fun e w' => ∃ (A1902 : Option Addr), ∃ (c1903 : Nat), e = .returned (.tuple #[vS A1902 r.1.length c1903, vI r.2]) ∧ Inv M w' [.row kEdge 40 A1902 r.1.length c1903 r.1] := by
  refine cg Tryd.func39 ?_
  intro cs
  unfold ring_Single at H
  refine go_seq (r_in (oe 0 rfl ?_))
  refine e_box 24 _ (.agg #[vI a0.N, vS A0z0 a0.Edges.length c0z0]) [vI a0.N, vS A0z0 a0.Edges.length c0z0] rfl (by kernel_rfl) rfl hI ?_
  clear hI
  intro b2 _ hI
  refine bp 1 2 (ro (go_seq (go_seq (r_in (bg 0 [.l 0 0] (gA (hI.grp 0 rfl)) ?_)))))
  replace H := bind_some H
  obtain ⟨y8, hy9, H⟩ := H
  refine oe 1 rfl ?_
  refine ec (enter18 _) (graph_Check_calls a0 A0z0 c0z0 (memOf _) _ (Inv.start _) (hI.rd hr0z0) hl0z0 _ hy9) ?_
  rintro _ _ ⟨rfl, hI'⟩
  replace hI := hI.call0 hI'
  clear hI'
  refine ⟨_, rfl, ?_⟩
  refine bp 2 1 (ro (go_seq (rp 2 ?_)))
  replace H := cond_some H
  rcases H with ⟨hc10, H⟩ | ⟨hc10, H⟩
  · refine gt hc10 (go_seq (rp 3 ?_))
    replace H := Option.some.inj H
    subst H
    exact gr Tryd.func39 ⟨none, 0, rfl, (hI.nilrow kEdge 40).pick [1] (by decide) rfl⟩
  · refine ge hc10 (go_skip (go_seq (r_in (bg 0 [.l 0 0, .p, .p] (gA (hI.grp 0 rfl)) ?_))))
    replace H := bind_some H
    obtain ⟨y20, hy21, H⟩ := H
    refine oe 3 rfl ?_
    refine ec (enter45 _) (ring_newNet_calls a0 A0z0 c0z0 a1 a2 (memOf _) _ (Inv.start _) M.blk hI.fix hr0z0 hl0z0 _ hy21) ?_
    rintro _ _ ⟨b22, A23, c24, A27, c28, rfl, hr25, hl26, hI'⟩
    replace hI := hI.call0 hI'
    clear hI'
    refine ⟨_, rfl, ?_⟩
    refine bp 4 1 (ro (go_seq (rp 1 (go_seq (go_seq (rg [.p, .l 0 0, .p] (gA (hI.grp 0 rfl)) (go_block ?_)))))))
    refine go_iter (ring_Single.s1 a0 y20) (fun (l1237, b1240, x1242) f w => ∃ (j : Nat → Value) (A1238 : Option Addr) (c1239 : Nat), f = updL j [(3, vP b2 0), (9, vP b22 0), (10, vS A1238 l1237.length c1239), (24, vI a0.N), (25, vI x1242)] ∧ A1238.isNone = b1240 ∧ Inv M w [.blk b2 24 [vI a0.N, vS A0z0 a0.Edges.length c0z0], .blk b22 89 [vI y20.g.N, vS A23 y20.g.Edges.length c24, vS A27 y20.links.length c28], .row (tSlice 85 kRingLink) 86 A27 y20.links.length c28 y20.links, .row (tInt .i64) 3 A1238 l1237.length c1239 l1237]) H ⟨_, none, 0, at_, rfl, (hI.nilrow (tInt .i64) 3)⟩ ?_
    clear H hI
    rintro ⟨l1237, b1240, x1242⟩ _ _ o1 H ⟨_, A1238, c1239, rfl, hn1241, hI⟩ hin1 hout1
    refine go_seq (rp 1 (go_seq ?_))
    replace H := cond_some H
    rcases H with ⟨hc1244, H⟩ | ⟨hc1244, H⟩
    · refine gt hc1244 (go_skip (go_seq (go_block (go_seq (rp 2 (go_seq (rg [.p, .l 0 0, .p] (gA (hI.grp 0 rfl)) (go_block ?_))))))))
      refine go_iter (ring_Single.s2 a0 y20 x1242) (fun (l1757, b1760, x1762) f w => ∃ (j : Nat → Value) (A1758 : Option Addr) (c1759 : Nat), f = updL j [(3, vP b2 0), (9, vP b22 0), (10, vS A1758 l1757.length c1759), (11, vI x1242), (24, vI a0.N), (25, vI x1242), (29, vI a0.N), (30, vI x1762)] ∧ A1758.isNone = b1760 ∧ Inv M w [.blk b2 24 [vI a0.N, vS A0z0 a0.Edges.length c0z0], .blk b22 89 [vI y20.g.N, vS A23 y20.g.Edges.length c24, vS A27 y20.links.length c28], .row (tSlice 85 kRingLink) 86 A27 y20.links.length c28 y20.links, .row (tInt .i64) 3 A1758 l1757.length c1759 l1757]) H ⟨_, A1238, c1239, at_, hn1241, hI⟩ ?_
      clear H hI
      rintro ⟨l1757, b1760, x1762⟩ _ _ o2 H ⟨_, A1758, c1759, rfl, hn1761, hI⟩ hin2 hout2
      refine go_seq (rp 1 (go_seq ?_))
      replace H := cond_some H
      rcases H with ⟨hc1764, H⟩ | ⟨hc1764, H⟩
      · refine gt hc1764 (go_skip (go_seq ?_))
        refine go_block_join (o := o2) (fun (l1826, b1829) f w => ∃ (j : Nat → Value) (A1827 : Option Addr) (c1828 : Nat), f = updL j [(3, vP b2 0), (9, vP b22 0), (10, vS A1827 l1826.length c1828), (11, vI x1242), (24, vI a0.N), (25, vI x1242), (29, vI a0.N), (30, vI x1762)] ∧ A1827.isNone = b1829 ∧ Inv M w [.blk b2 24 [vI a0.N, vS A0z0 a0.Edges.length c0z0], .blk b22 89 [vI y20.g.N, vS A23 y20.g.Edges.length c24, vS A27 y20.links.length c28], .row (tSlice 85 kRingLink) 86 A27 y20.links.length c28 y20.links, .row (tInt .i64) 3 A1827 l1826.length c1828 l1826]) (fun (l1826, b1829) => ring_Single.j3 x1762 l1826 b1829) ?_ (fun hJ1831 => ?_)
        · clear H hI
          rintro ⟨l1826, b1829⟩ _ _ ⟨_, A1827, c1828, rfl, hn1830, hI⟩ H
          refine rp 2 ?_
          exact hin2 _ (Option.some.inj H).symm _ _ ⟨_, A1827, c1828, at_, hn1830, hI⟩
        · refine go_seq (rp 2 (go_seq (go_seq (r_in ?_))))
          replace H := must_some H
          obtain ⟨g1857, H⟩ := H
          obtain ⟨b1858, rfl⟩ := hI.rowAt 2 rfl g1857
          obtain ⟨cs1861, hk1860, hg1859⟩ := rdS.look (hI.row 2 rfl) (hI.rowlen 2 rfl) g1857
          obtain ⟨A1862, c1863, rfl, hl1865, hr1864⟩ := hk1860
          replace H := must_some H
          obtain ⟨g1866, H⟩ := H
          obtain ⟨b1867, q1868, rfl, _⟩ := rdS.fopen hr1864 rfl g1866
          refine bx 0 [.p, .p, .p, .l 0 2, .p, .x, .l 1 0, .p, .x, .p, .l 2 1, .p] (gC (hI.grp 1 rfl) hg1859.ok ((rdS.flook hr1864 rfl g1866).ok)) _ (bC g1857 (bZ g1866)) (ro ?_)
          replace H := cond_some H
          rcases H with ⟨hc1869, H⟩ | ⟨hc1869, H⟩
          · refine gt hc1869 ?_
            refine go_exit rfl ?_
            exact hJ1831 (l1757, b1760) _ _ ⟨_, A1758, c1759, at_, hn1761, hI⟩ H
          · refine ge hc1869 (go_skip (go_seq (r_in (bp 0 3 ?_))))
            replace H := bind_some H
            obtain ⟨y1875, hy1876, H⟩ := H
            refine oe 3 rfl ?_
            refine ec (enter46 _) (ring_net_back_calls b22 y20 A23 c24 (some ⟨b1858, 0, none⟩) c28 x1762 x1242 (memOf _) _ (Inv.start _) (Grp.lies (hI.grp 1 rfl)) (hI.rd hr25) hl26 (hI.row 2 rfl) (hI.rowle 2 rfl) _ hy1876) ?_
            rintro _ _ ⟨A1877, c1878, rfl, hn1879, hI'⟩
            replace hI := hI.call0 hI'
            clear hI'
            refine ⟨_, rfl, ?_⟩
            refine bp 4 1 (ro ?_)
            refine go_seq_join (o := o2) (fun b1882 f w => ∃ (j : Nat → Value), f = updL j [(3, vP b2 0), (9, vP b22 0), (10, vS A1758 l1757.length c1759), (11, vI x1242), (13, vS A1877 y1875.1.length c1878), (24, vI a0.N), (25, vI x1242), (29, vI a0.N), (30, vI x1762), (62, vB b1882)] ∧ Inv M w [.blk b2 24 [vI a0.N, vS A0z0 a0.Edges.length c0z0], .blk b22 89 [vI y20.g.N, vS A23 y20.g.Edges.length c24, vS (some ⟨b1858, 0, none⟩) y20.links.length c28], .row (tSlice 85 kRingLink) 86 (some ⟨b1858, 0, none⟩) y20.links.length c28 y20.links, .row (tInt .i64) 3 A1758 l1757.length c1759 l1757, .row (tInt .i64) 3 A1877 y1875.1.length c1878 y1875.1]) (fun b1882 => ring_Single.j4 x1242 l1757 b1760 x1762 y1875 b1882) ?_ (fun hJ1883 => ?_)
            · clear H hI
              rintro b1882 _ _ ⟨_, rfl, hI⟩ H
              replace H := cond_some H
              rcases H with ⟨hc1884, H⟩ | ⟨hc1884, H⟩
              · refine gt hc1884 (r_in (bp 0 1 (oe 1 rfl ?_)))
                refine e_partsS 43 3 1 _ _ _ #[vI x1242] [vI x1242] rfl rfl rfl rfl (by kernel_rfl) (by kernel_rfl) (by kernel_rfl) (by kernel_rfl) hI ?_
                clear hI
                intro b1885 _ hs1886 hI
                replace hI := hI.asrow (k := (tInt .i64)) (xs := ([x1242] : List Int)) (cs := [vI x1242]) (R := []) (L' := [.blk b2 24 [vI a0.N, vS A0z0 a0.Edges.length c0z0], .blk b22 89 [vI y20.g.N, vS A23 y20.g.Edges.length c24, vS (some ⟨b1858, 0, none⟩) y20.links.length c28], .row (tSlice 85 kRingLink) 86 (some ⟨b1858, 0, none⟩) y20.links.length c28 y20.links, .row (tInt .i64) 3 A1758 l1757.length c1759 l1757, .row (tInt .i64) 3 A1877 y1875.1.length c1878 y1875.1]) 1 5 [] [0, 1, 2, 3, 4] (by decide) rfl (mks_cons (mk_flat (k := (tInt .i64)) x1242 [vI x1242] rfl) mks_nil) rfl rfl (by kernel_rfl)
                refine bp 2 1 ?_
                replace H := must_some H
                obtain ⟨g1887, H⟩ := H
                refine oe 3 rfl ?_
                refine e_append_rd (kt := (tInt .i64)) 43 0 3 _ _ _ _ (some ⟨b1885, 0, none⟩) A1877 1 1 ([x1242] : List Int) y1875.1 c1878 0 [1, 2, 3, 4, 5] [.blk b2 24 [vI a0.N, vS A0z0 a0.Edges.length c0z0], .blk b22 89 [vI y20.g.N, vS A23 y20.g.Edges.length c24, vS (some ⟨b1858, 0, none⟩) y20.links.length c28], .row (tSlice 85 kRingLink) 86 (some ⟨b1858, 0, none⟩) y20.links.length c28 y20.links, .row (tInt .i64) 3 A1758 l1757.length c1759 l1757, .row (tInt .i64) 3 A1877 y1875.1.length c1878 y1875.1] rfl (by kernel_rfl) (by kernel_rfl) rfl rfl rfl rfl rfl (by kernel_rfl) hI (by decide) rfl (hI.row 5 rfl) g1887 ?_
                clear hI
                intro A1888 c1889 _ hI
                have hn1890 := row_some (hI.row 0 rfl) (by simp)
                refine bp 4 1 (ro (go_inBlock ?_))
                exact hJ1831 (([x1242] : List Int) ++ y1875.1, false) _ _ ⟨_, A1888, c1889, at_, hn1890, hI.pick [1, 2, 3, 0] (by decide) rfl⟩ H
              · refine ge hc1884 (go_skip (go_inBlock ?_))
                exact hJ1831 (l1757, b1760) _ _ ⟨_, A1758, c1759, at_, hn1761, hI.pick [0, 1, 2, 3] (by decide) rfl⟩ H
            · refine r_in (bp 0 1 (oe 1 rfl ?_))
              refine e_notnil 43 3 _ _ _ A1877 y1875.1.length c1878 hn1879 rfl (by kernel_rfl) (by kernel_rfl) (by kernel_rfl) (by kernel_rfl) ?_
              replace H := cond_some H
              rcases H with ⟨hc1891, H⟩ | ⟨hc1891, H⟩
              · refine bx 2 [.c true, .p] gO _ (bZ (bndEq hc1891)) (oe 4 rfl ?_)
                refine e_isnil 43 3 _ _ _ A1758 l1757.length c1759 hn1761 rfl (by kernel_rfl) (by kernel_rfl) (by kernel_rfl) (by kernel_rfl) ?_
                replace H := cond_some H
                rcases H with ⟨hc1892, H⟩ | ⟨hc1892, H⟩
                · refine bx 5 [.c true, .p, .p, .p, .p, .p, .p, .p, .p] gO _ (bZ (bndEq hc1892)) (ro ?_)
                  exact hJ1883 true _ _ ⟨_, at_, hI⟩ H
                · refine bx 5 [.c false, .p, .p, .p, .p, .p, .p, .p, .p] gO _ (bZ (bndEq hc1892)) (ro ?_)
                  exact hJ1883 (decide (w64 ((y1875.1.length : Int) + 1) < (l1757.length : Int))) _ _ ⟨_, at_, hI⟩ H
              · refine bx 2 [.c false, .p, .p, .p, .p, .p, .p, .p, .p, .p, .p, .p] gO _ (bZ (bndEq hc1891)) (ro ?_)
                exact hJ1883 false _ _ ⟨_, at_, hI⟩ H
      · refine ge hc1764 ?_
        refine go_exit rfl ?_
        refine go_inBlock (rp 2 ?_)
        replace H := out_some H
        obtain ⟨_, H, he2⟩ := H
        have he := (hout2 _ he2).symm
        subst he
        exact hin1 _ (Option.some.inj H).symm _ _ ⟨_, A1758, c1759, at_, hn1761, hI⟩
    · refine ge hc1244 ?_
      refine go_exit rfl ?_
      refine go_seq (r_in (bp 0 2 ?_))
      replace H := bind_some H
      obtain ⟨y1897, hy1898, H⟩ := H
      refine oe 2 rfl ?_
      refine ec (enter47 _) (ring_net_edges_ring_Single_1zcalls b22 y20 A23 c24 A27 c28 A1238 c1239 l1237 (memOf _) _ (Inv.start _) (Grp.lies (hI.grp 1 rfl)) (hI.rd hr25) hl26 (hI.row 2 rfl) (hI.rowle 2 rfl) (hI.row 3 rfl) (hI.rowle 3 rfl) _ hy1898) ?_
      rintro _ _ ⟨A1899, c1900, rfl, hI'⟩
      replace hI := hI.call0 hI'
      clear hI'
      refine ⟨_, rfl, ?_⟩
      refine bp 3 2 (ro ?_)
      replace H := out_some H
      obtain ⟨_, H, he1⟩ := H
      have he := (hout1 _ he1).symm
      subst he
      replace H := Option.some.inj H
      subst H
      exact gr Tryd.func39 ⟨A1899, c1900, rfl, hI.pick [4] (by decide) rfl⟩

/-! ### assizelaw07zalive -/
theorem enter26 (a : Array Value) : Sem.pureRun Tryd.prog (callFunc 26 a) = some (.enter 26 a) := by kernel_rfl
theorem assizelaw07zalive_calls  (M : Mem) (w : World) (hI : Inv M w []) (r : Bool) (H : assizelaw07zalive = some r) :
    Calls Tryd.prog 26 #[] w fun e w' => e = .returned (vB r) ∧ Inv M w' [] := by
  refine cg Tryd.func26 ?_
  intro cs
  unfold assizelaw07zalive at H
  refine go_seq (rp 1 (go_seq (r_in (bp 0 2 (oe 2 rfl ?_)))))
  refine e_partsS 22 40 2 _ _ _ #[vI 0, vI 1, vI 8, vI 0, vI 1, vI 0, vI 16, vI 0] [vI 0, vI 1, vI 8, vI 0, vI 1, vI 0, vI 16, vI 0] rfl rfl rfl rfl (by kernel_rfl) (by kernel_rfl) (by kernel_rfl) (by kernel_rfl) hI ?_
  clear hI
  intro b4 _ hs5 hI
  replace hI := hI.asrow (k := kEdge) (xs := ([(⟨0, 1, 8, 0⟩ : Edge), (⟨1, 0, 16, 0⟩ : Edge)] : List Edge)) (cs := [vI 0, vI 1, vI 8, vI 0, vI 1, vI 0, vI 16, vI 0]) (R := []) (L' := []) 2 0 [] [] (by decide) rfl (mks_cons (mk_flat (k := kEdge) (⟨0, 1, 8, 0⟩ : Edge) [vI 0, vI 1, vI 8, vI 0] rfl) (mks_cons (mk_flat (k := kEdge) (⟨1, 0, 16, 0⟩ : Edge) [vI 1, vI 0, vI 16, vI 0] rfl) mks_nil)) rfl rfl (by kernel_rfl)
  refine bp 3 1 (oe 4 rfl ?_)
  refine e_alloc 24 (.agg #[vI 0, vS none 0 0]) [vI 0, vS none 0 0] rfl (by kernel_rfl) rfl hI ?_
  clear hI
  intro b6 _ hI
  refine oe 5 rfl ?_
  refine e_store 24 _ _ 1 b6 24 [vI 0, vS none 0 0] [vI 2, vS (some ⟨b4, 0, none⟩) 2 2] 0 (.agg #[vI 2, vS (some ⟨b4, 0, none⟩) 2 2]) rfl (by kernel_rfl) (by kernel_rfl) (by kernel_rfl) (by kernel_rfl) hI rfl (by kernel_rfl) (by kernel_rfl) ?_
  clear hI
  intro _ hI
  refine ro (go_seq (r_in (bg 0 [.l 0 0] (gA (hI.grp 1 rfl)) ?_)))
  replace H := bind_some H
  obtain ⟨y11, hy12, H⟩ := H
  refine o_is 8 (vS (some ⟨b4, 0, none⟩) 2 2) (vS (some ⟨b4, 0, none⟩) (([(⟨0, 1, 8, 0⟩ : Edge), (⟨1, 0, 16, 0⟩ : Edge)] : List Edge).length) 2) (by kernel_rfl) (by first | rfl | simp only [List.length_set, List.length_replicate, List.length_nil]) ?_
  refine o_is 9 (.agg #[vI 2, vS (some ⟨b4, 0, none⟩) 2 2]) (.agg #[vI 2, vS (some ⟨b4, 0, none⟩) (([(⟨0, 1, 8, 0⟩ : Edge), (⟨1, 0, 16, 0⟩ : Edge)] : List Edge).length) 2]) (by kernel_rfl) (by first | rfl | simp only [List.length_set, List.length_replicate, List.length_nil]) ?_
  refine o_is 11 (.agg #[vI 2, vS (some ⟨b4, 0, none⟩) 2 2]) (.agg #[vI 2, vS (some ⟨b4, 0, none⟩) (([(⟨0, 1, 8, 0⟩ : Edge), (⟨1, 0, 16, 0⟩ : Edge)] : List Edge).length) 2]) (by kernel_rfl) (by first | rfl | simp only [List.length_set, List.length_replicate, List.length_nil]) ?_
  refine o_is 11 (.agg #[vI 2, vS (some ⟨b4, 0, none⟩) 2 2]) (.agg #[vI 2, vS (some ⟨b4, 0, none⟩) (([(⟨0, 1, 8, 0⟩ : Edge), (⟨1, 0, 16, 0⟩ : Edge)] : List Edge).length) 2]) (by kernel_rfl) (by first | rfl | simp only [List.length_set, List.length_replicate, List.length_nil]) ?_
  replace hI := hI.renum 0 rfl
  replace hI := hI.recell 1 [vI 2, vS (some ⟨b4, 0, none⟩) (([(⟨0, 1, 8, 0⟩ : Edge), (⟨1, 0, 16, 0⟩ : Edge)] : List Edge).length) 2] (by first | rfl | simp only [List.length_set, List.length_replicate, List.length_nil]) rfl
  refine oe 1 rfl ?_
  refine ec (enter39 _) (ring_Single_calls (⟨2, ([(⟨0, 1, 8, 0⟩ : Edge), (⟨1, 0, 16, 0⟩ : Edge)] : List Edge)⟩ : Graph) (some ⟨b4, 0, none⟩) 2 8 16 (memOf _) _ (Inv.start _) (hI.row 0 rfl) (hI.rowle 0 rfl) _ hy12) ?_
  rintro _ _ ⟨A13, c14, rfl, hI'⟩
  replace hI := hI.call0 hI'
  clear hI'
  refine ⟨_, rfl, ?_⟩
  refine bp 2 5 (ro (go_seq (r_in (bg 0 [.l 0 0] (gA (hI.grp 1 rfl)) ?_))))
  replace H := bind_some H
  obtain ⟨y19, hy20, H⟩ := H
  refine oe 1 rfl ?_
  refine ec (enter29 _) (ring_Plain_calls (⟨2, ([(⟨0, 1, 8, 0⟩ : Edge), (⟨1, 0, 16, 0⟩ : Edge)] : List Edge)⟩ : Graph) (some ⟨b4, 0, none⟩) 2 8 (memOf _) _ (Inv.start _) (hI.row 0 rfl) (hI.rowle 0 rfl) _ hy20) ?_
  rintro _ _ ⟨A21, c22, rfl, hI'⟩
  replace hI := hI.call0 hI'
  clear hI'
  refine ⟨_, rfl, ?_⟩
  refine bp 2 5 (ro (go_seq ?_))
  replace H := cond_some H
  rcases H with ⟨hc36, H⟩ | ⟨hc36, H⟩
  · replace H := cond_some H
    rcases H with ⟨hc37, H⟩ | ⟨hc37, H⟩
    · replace H := must_some H
      obtain ⟨g38, H⟩ := H
      obtain ⟨b39, rfl⟩ := hI.rowAt 2 rfl g38
      replace H := must_some H
      obtain ⟨g40, H⟩ := H
      replace H := cond_some H
      rcases H with ⟨hc41, H⟩ | ⟨hc41, H⟩
      · replace H := cond_some H
        rcases H with ⟨hc42, H⟩ | ⟨hc42, H⟩
        · replace H := cond_some H
          rcases H with ⟨hc43, H⟩ | ⟨hc43, H⟩
          · replace H := bind_some H
            obtain ⟨y44, hy45, H⟩ := H
            replace H := cond_some H
            rcases H with ⟨hc46, H⟩ | ⟨hc46, H⟩
            · replace H := bind_some H
              obtain ⟨y47, hy48, H⟩ := H
              refine go_held (fun w => Inv M w [.row kEdge 40 (some ⟨b4, 0, none⟩) (([(⟨0, 1, 8, 0⟩ : Edge), (⟨1, 0, 16, 0⟩ : Edge)] : List Edge).length) 2 ([(⟨0, 1, 8, 0⟩ : Edge), (⟨1, 0, 16, 0⟩ : Edge)] : List Edge), .blk b6 24 [vI 2, vS (some ⟨b4, 0, none⟩) (([(⟨0, 1, 8, 0⟩ : Edge), (⟨1, 0, 16, 0⟩ : Edge)] : List Edge).length) 2], .row kEdge 40 (some ⟨b39, 0, none⟩) y11.1.length c14 y11.1, .row kEdge 40 A21 y19.1.length c22 y19.1]) (by kernel_rfl) ?_
              replace hI := hI.drew'
              refine hx (n := 9) [(0, .p), (1, .p), (2, .c true), (3, .p), (4, .p), (5, .p), (6, .p), (7, .c true), (8, .p), (9, .x), (10, .l 0 0), (11, .p), (12, .l 1 1), (13, .x), (14, .l 2 0), (15, .x), (16, .p), (17, .c true), (18, .p), (19, .p), (20, .p), (21, .c true), (22, .p), (23, .p), (24, .p), (25, .p), (26, .c true), (27, .l 1 0), (28, .p)] (fun _ hS => (gC ((rdS.flook (hS.row 2 rfl) (hS.rowlen 2 rfl) g38).ok) (hS.grp 1 rfl) ((rdS.flook (hS.row 0 rfl) (hS.rowlen 0 rfl) g40).ok))) hI _ (bC (bndEq hc36) (bC (bndEq hc37) (bC g38 (bC g40 (bC (bndEq hc41) (bC (bndEq hc42) (bZ (bndEq hc43)))))))) ?_
              refine ho (n := 8) 29 rfl (ec (enter28 _) (ring_Fits_calls (⟨2, ([(⟨0, 1, 8, 0⟩ : Edge), (⟨1, 0, 16, 0⟩ : Edge)] : List Edge)⟩ : Graph) (some ⟨b4, 0, none⟩) 2 (some ⟨b39, 0, none⟩) c14 y11.1 8 16 2 (memOf _) _ (Inv.start _) (hI.row 0 rfl) (hI.rowle 0 rfl) (hI.row 2 rfl) (hI.rowle 2 rfl) _ hy45) ?_)
              rintro _ _ ⟨rfl, hI'⟩
              replace hI := hI.call0 hI'
              clear hI'
              refine ⟨_, rfl, ?_⟩
              refine ⟨hI, ?_⟩
              refine hx (n := 4) [(30, .p), (31, .c true), (32, .l 0 0), (33, .p)] (fun _ hS => (gA (hS.grp 1 rfl))) hI _ (bZ (bndEq hc46)) ?_
              refine ho (n := 3) 34 rfl (ec (enter28 _) (ring_Fits_calls (⟨2, ([(⟨0, 1, 8, 0⟩ : Edge), (⟨1, 0, 16, 0⟩ : Edge)] : List Edge)⟩ : Graph) (some ⟨b4, 0, none⟩) 2 (some ⟨b39, 0, none⟩) c14 y11.1 8 16 1 (memOf _) _ (Inv.start _) (hI.row 0 rfl) (hI.rowle 0 rfl) (hI.row 2 rfl) (hI.rowle 2 rfl) _ hy48) ?_)
              rintro _ _ ⟨rfl, hI'⟩
              replace hI := hI.call0 hI'
              clear hI'
              refine ⟨_, rfl, ?_⟩
              refine ⟨hI, ?_⟩
              refine hg (n := 0) [(35, .p), (36, .p), (37, .p)] (fun _ hS => gO) hI (hd ?_)
              replace H := Option.some.inj H
              subst H
              exact gr Tryd.func26 ⟨rfl, hI.pn⟩
            · refine go_held (fun w => Inv M w [.row kEdge 40 (some ⟨b4, 0, none⟩) (([(⟨0, 1, 8, 0⟩ : Edge), (⟨1, 0, 16, 0⟩ : Edge)] : List Edge).length) 2 ([(⟨0, 1, 8, 0⟩ : Edge), (⟨1, 0, 16, 0⟩ : Edge)] : List Edge), .blk b6 24 [vI 2, vS (some ⟨b4, 0, none⟩) (([(⟨0, 1, 8, 0⟩ : Edge), (⟨1, 0, 16, 0⟩ : Edge)] : List Edge).length) 2], .row kEdge 40 (some ⟨b39, 0, none⟩) y11.1.length c14 y11.1, .row kEdge 40 A21 y19.1.length c22 y19.1]) (by kernel_rfl) ?_
              replace hI := hI.drew'
              refine hx (n := 9) [(0, .p), (1, .p), (2, .c true), (3, .p), (4, .p), (5, .p), (6, .p), (7, .c true), (8, .p), (9, .x), (10, .l 0 0), (11, .p), (12, .l 1 1), (13, .x), (14, .l 2 0), (15, .x), (16, .p), (17, .c true), (18, .p), (19, .p), (20, .p), (21, .c true), (22, .p), (23, .p), (24, .p), (25, .p), (26, .c true), (27, .l 1 0), (28, .p)] (fun _ hS => (gC ((rdS.flook (hS.row 2 rfl) (hS.rowlen 2 rfl) g38).ok) (hS.grp 1 rfl) ((rdS.flook (hS.row 0 rfl) (hS.rowlen 0 rfl) g40).ok))) hI _ (bC (bndEq hc36) (bC (bndEq hc37) (bC g38 (bC g40 (bC (bndEq hc41) (bC (bndEq hc42) (bZ (bndEq hc43)))))))) ?_
              refine ho (n := 8) 29 rfl (ec (enter28 _) (ring_Fits_calls (⟨2, ([(⟨0, 1, 8, 0⟩ : Edge), (⟨1, 0, 16, 0⟩ : Edge)] : List Edge)⟩ : Graph) (some ⟨b4, 0, none⟩) 2 (some ⟨b39, 0, none⟩) c14 y11.1 8 16 2 (memOf _) _ (Inv.start _) (hI.row 0 rfl) (hI.rowle 0 rfl) (hI.row 2 rfl) (hI.rowle 2 rfl) _ hy45) ?_)
              rintro _ _ ⟨rfl, hI'⟩
              replace hI := hI.call0 hI'
              clear hI'
              refine ⟨_, rfl, ?_⟩
              refine ⟨hI, ?_⟩
              refine hx (n := 0) [(30, .p), (31, .c false), (32, .p), (33, .p), (34, .p), (35, .p), (36, .p), (37, .p)] (fun _ hS => gO) hI _ (bZ (bndEq hc46)) (hd ?_)
              replace H := Option.some.inj H
              subst H
              exact gr Tryd.func26 ⟨rfl, hI.pn⟩
          · refine dx [.p, .p, .c true, .p, .p, .p, .p, .c true, .p, .x, .l 0 0, .p, .l 1 1, .x, .l 2 0, .x, .p, .c true, .p, .p, .p, .c true, .p, .p, .p, .p, .c false, .p, .p, .p, .p, .p, .p, .p, .p, .p, .p, .p] (gC ((rdS.flook (hI.row 2 rfl) (hI.rowlen 2 rfl) g38).ok) (hI.grp 1 rfl) ((rdS.flook (hI.row 0 rfl) (hI.rowlen 0 rfl) g40).ok)) _ (bC (bndEq hc36) (bC (bndEq hc37) (bC g38 (bC g40 (bC (bndEq hc41) (bC (bndEq hc42) (bZ (bndEq hc43)))))))) hI ?_
            clear hI
            intro _ hI
            replace H := Option.some.inj H
            subst H
            exact gr Tryd.func26 ⟨rfl, hI.pn⟩
        · refine dx [.p, .p, .c true, .p, .p, .p, .p, .c true, .p, .x, .l 0 0, .p, .l 1 1, .x, .l 2 0, .x, .p, .c true, .p, .p, .p, .c false, .p, .p, .p, .p, .p, .p, .p, .p, .p, .p, .p, .p, .p, .p, .p, .p] (gC ((rdS.flook (hI.row 2 rfl) (hI.rowlen 2 rfl) g38).ok) (hI.grp 1 rfl) ((rdS.flook (hI.row 0 rfl) (hI.rowlen 0 rfl) g40).ok)) _ (bC (bndEq hc36) (bC (bndEq hc37) (bC g38 (bC g40 (bC (bndEq hc41) (bZ (bndEq hc42))))))) hI ?_
          clear hI
          intro _ hI
          replace H := Option.some.inj H
          subst H
          exact gr Tryd.func26 ⟨rfl, hI.pn⟩
      · refine dx [.p, .p, .c true, .p, .p, .p, .p, .c true, .p, .x, .l 0 0, .p, .l 1 1, .x, .l 2 0, .x, .p, .c false, .p, .p, .p, .p, .p, .p, .p, .p, .p, .p, .p, .p, .p, .p, .p, .p, .p, .p, .p, .p] (gC ((rdS.flook (hI.row 2 rfl) (hI.rowlen 2 rfl) g38).ok) (hI.grp 1 rfl) ((rdS.flook (hI.row 0 rfl) (hI.rowlen 0 rfl) g40).ok)) _ (bC (bndEq hc36) (bC (bndEq hc37) (bC g38 (bC g40 (bZ (bndEq hc41)))))) hI ?_
        clear hI
        intro _ hI
        replace H := Option.some.inj H
        subst H
        exact gr Tryd.func26 ⟨rfl, hI.pn⟩
    · refine dx [.p, .p, .c true, .p, .p, .p, .p, .c false, .p, .p, .p, .p, .p, .p, .p, .p, .p, .p, .p, .p, .p, .p, .p, .p, .p, .p, .p, .p, .p, .p, .p, .p, .p, .p, .p, .p, .p, .p] gO _ (bC (bndEq hc36) (bZ (bndEq hc37))) hI ?_
      clear hI
      intro _ hI
      replace H := Option.some.inj H
      subst H
      exact gr Tryd.func26 ⟨rfl, hI.pn⟩
  · refine dx [.p, .p, .c false, .p, .p, .p, .p, .p, .p, .p, .p, .p, .p, .p, .p, .p, .p, .p, .p, .p, .p, .p, .p, .p, .p, .p, .p, .p, .p, .p, .p, .p, .p, .p, .p, .p, .p, .p] gO _ (bZ (bndEq hc36)) hI ?_
    clear hI
    intro _ hI
    replace H := Option.some.inj H
    subst H
    exact gr Tryd.func26 ⟨rfl, hI.pn⟩

/-! ### assizelaw07ztold -/
theorem enter27 (a : Array Value) : Sem.pureRun Tryd.prog (callFunc 27 a) = some (.enter 27 a) := by kernel_rfl
theorem assizelaw07ztold_calls (a0 : Graph) (A0z0 : Option Addr) (c0z0 : Nat) (a1 : Int) (a2 : Int) (a3 : Int) (M : Mem) (w : World) (hI : Inv M w []) (hr0z0 : rdS kEdge M.blk A0z0 a0.Edges) (hl0z0 : a0.Edges.length ≤ c0z0) (r : List Edge × Int) (H : assizelaw07ztold a0 a1 a2 a3 = some r) :
    Calls Tryd.prog 27 #[.agg #[vI a0.N, vS A0z0 a0.Edges.length c0z0], vI a1, vI a2, vI a3] w fun e w' => ∃ (A50 : Option Addr), ∃ (c51 : Nat), e = .returned (.tuple #[vS A50 r.1.length c51, vI r.2]) ∧ Inv M w' [.row kEdge 40 A50 r.1.length c51 r.1] := by
  refine cg Tryd.func27 ?_
  intro cs
  unfold assizelaw07ztold at H
  refine go_seq (r_in (oe 0 rfl ?_))
  refine e_box 24 _ (.agg #[vI a0.N, vS A0z0 a0.Edges.length c0z0]) [vI a0.N, vS A0z0 a0.Edges.length c0z0] rfl (by kernel_rfl) rfl hI ?_
  clear hI
  intro b2 _ hI
  refine bp 1 2 (ro (go_seq (go_seq (rp 1 (go_block (go_seq (rp 2 ?_)))))))
  replace H := cond_some H
  rcases H with ⟨hc23, H⟩ | ⟨hc23, H⟩
  · refine gt hc23 (go_seq (r_in (bg 0 [.l 0 0, .p] (gA (hI.grp 0 rfl)) ?_)))
    replace H := bind_some H
    obtain ⟨y28, hy29, H⟩ := H
    refine oe 2 rfl ?_
    refine ec (enter29 _) (ring_Plain_calls a0 A0z0 c0z0 a1 (memOf _) _ (Inv.start _) (hI.rd hr0z0) hl0z0 _ hy29) ?_
    rintro _ _ ⟨A30, c31, rfl, hI'⟩
    replace hI := hI.call0 hI'
    clear hI'
    refine ⟨_, rfl, ?_⟩
    refine bp 3 4 (ro ?_)
    replace H := Option.some.inj H
    subst H
    exact gr Tryd.func27 ⟨A30, c31, rfl, hI.pick [1] (by decide) rfl⟩
  · refine ge hc23 (go_seq (rp 2 ?_))
    replace H := cond_some H
    rcases H with ⟨hc32, H⟩ | ⟨hc32, H⟩
    · refine gt hc32 (go_seq (r_in (bg 0 [.l 0 0, .p, .p] (gA (hI.grp 0 rfl)) ?_)))
      replace H := bind_some H
      obtain ⟨y37, hy38, H⟩ := H
      refine oe 3 rfl ?_
      refine ec (enter39 _) (ring_Single_calls a0 A0z0 c0z0 a1 a2 (memOf _) _ (Inv.start _) (hI.rd hr0z0) hl0z0 _ hy38) ?_
      rintro _ _ ⟨A39, c40, rfl, hI'⟩
      replace hI := hI.call0 hI'
      clear hI'
      refine ⟨_, rfl, ?_⟩
      refine bp 4 4 (ro ?_)
      replace H := Option.some.inj H
      subst H
      exact gr Tryd.func27 ⟨A39, c40, rfl, hI.pick [1] (by decide) rfl⟩
    · refine ge hc32 (go_skip (go_inBlock (go_seq (r_in (bg 0 [.l 0 0, .p, .p] (gA (hI.grp 0 rfl)) ?_)))))
      replace H := bind_some H
      obtain ⟨y45, hy46, H⟩ := H
      refine oe 3 rfl ?_
      refine ec (enter40 _) (ring_Spaced_calls a0 A0z0 c0z0 a1 a2 (memOf _) _ (Inv.start _) (hI.rd hr0z0) hl0z0 _ hy46) ?_
      rintro _ _ ⟨A47, c48, rfl, hI'⟩
      replace hI := hI.call0 hI'
      clear hI'
      refine ⟨_, rfl, ?_⟩
      refine bp 4 4 (ro ?_)
      replace H := Option.some.inj H
      subst H
      exact gr Tryd.func27 ⟨A47, c48, rfl, hI.pick [1] (by decide) rfl⟩

/-! ### assizelaw07zRingCertified -/
theorem enter9 (a : Array Value) : Sem.pureRun Tryd.prog (callFunc 9 a) = some (.enter 9 a) := by kernel_rfl
theorem assizelaw07zRingCertified_calls (a0 : Graph) (A0z0 : Option Addr) (c0z0 : Nat) (a1 : Int) (a2 : Int) (M : Mem) (w : World) (hI : Inv M w []) (hT : TabM M.blk) (hr0z0 : rdS kEdge M.blk A0z0 a0.Edges) (hl0z0 : a0.Edges.length ≤ c0z0) (r : Bool) (H : assizelaw07zRingCertified a0 a1 a2 = some r) :
    Calls Tryd.prog 9 #[.agg #[vI a0.N, vS A0z0 a0.Edges.length c0z0], vI a1, vI a2] w fun e w' => e = .returned (vB r) ∧ Inv M w' [] := by
  refine cg Tryd.func9 ?_
  intro cs
  unfold assizelaw07zRingCertified at H
  refine go_seq (r_in (oe 0 rfl ?_))
  refine e_box 24 _ (.agg #[vI a0.N, vS A0z0 a0.Edges.length c0z0]) [vI a0.N, vS A0z0 a0.Edges.length c0z0] rfl (by kernel_rfl) rfl hI ?_
  clear hI
  intro b2 _ hI
  refine bp 1 1 (ro (go_seq (go_seq (r_in ?_))))
  replace H := bind_some H
  obtain ⟨y8, hy9, H⟩ := H
  refine oe 0 rfl ?_
  refine ec (enter26 _) (assizelaw07zalive_calls (memOf _) _ (Inv.start _) _ hy9) ?_
  rintro _ _ ⟨rfl, hI'⟩
  replace hI := hI.call0 hI'
  clear hI'
  refine ⟨_, rfl, ?_⟩
  refine bp 1 1 (ro ?_)
  replace H := cond_some H
  rcases H with ⟨hc10, H⟩ | ⟨hc10, H⟩
  · refine gt hc10 (go_seq (rp 1 ?_))
    replace H := Option.some.inj H
    subst H
    exact gr Tryd.func9 ⟨rfl, hI.pn⟩
  · refine ge hc10 (go_skip (go_seq (go_seq (rp 1 (go_block ?_)))))
    refine go_iter (assizelaw07zRingCertified.s1 a0 a1 a2) (fun x132 f w => ∃ (j : Nat → Value), f = updL j [(1, vI a1), (2, vI a2), (3, vP b2 0), (7, vI x132)] ∧ Inv M w [.blk b2 24 [vI a0.N, vS A0z0 a0.Edges.length c0z0]]) H ⟨_, at_, hI⟩ ?_
    clear H hI
    rintro x132 _ _ o1 H ⟨_, rfl, hI⟩ hin1 hout1
    refine go_seq (go_seq (rp 2 ?_))
    replace H := cond_some H
    rcases H with ⟨hc134, H⟩ | ⟨hc134, H⟩
    · refine gt hc134 (go_skip (go_seq (go_block (go_seq (r_in (bg 0 [.l 0 0, .p, .p, .p] (gA (hI.grp 0 rfl)) ?_))))))
      replace H := bind_some H
      obtain ⟨y163, hy164, H⟩ := H
      refine oe 4 rfl ?_
      refine ec (enter27 _) (assizelaw07ztold_calls a0 A0z0 c0z0 a1 a2 x132 (memOf _) _ (Inv.start _) (hI.rd hr0z0) hl0z0 _ hy164) ?_
      rintro _ _ ⟨A165, c166, rfl, hI'⟩
      replace hI := hI.call0 hI'
      clear hI'
      refine ⟨_, rfl, ?_⟩
      refine bp 5 5 (ro (go_seq (go_seq (rp 2 ?_))))
      replace H := cond_some H
      rcases H with ⟨hc170, H⟩ | ⟨hc170, H⟩
      · refine gt hc170 (go_seq (r_in ?_))
        replace H := cond_some H
        rcases H with ⟨hc172, H⟩ | ⟨hc172, H⟩
        · refine bx 0 [.p, .p, .c true, .p, .p, .p, .p, .p] gO _ (bZ (bndEq hc172)) (ro ?_)
          replace H := out_some H
          obtain ⟨_, H, he1⟩ := H
          have he := (hout1 _ he1).symm
          subst he
          replace H := Option.some.inj H
          subst H
          exact gr Tryd.func9 ⟨rfl, hI.pn⟩
        · refine bx 0 [.p, .p, .c false, .p, .p, .p, .p, .p] gO _ (bZ (bndEq hc172)) (ro ?_)
          replace H := out_some H
          obtain ⟨_, H, he1⟩ := H
          have he := (hout1 _ he1).symm
          subst he
          replace H := Option.some.inj H
          subst H
          exact gr Tryd.func9 ⟨rfl, hI.pn⟩
      · refine ge hc170 (go_skip ?_)
        refine go_seq_join (o := o1) (fun b176 f w => ∃ (j : Nat → Value), f = updL j [(1, vI a1), (2, vI a2), (3, vP b2 0), (7, vI x132), (49, vB b176)] ∧ Inv M w [.blk b2 24 [vI a0.N, vS A0z0 a0.Edges.length c0z0]]) (fun b176 => assizelaw07zRingCertified.j2 x132 b176) ?_ (fun hJ177 => ?_)
        · clear H hI
          rintro b176 _ _ ⟨_, rfl, hI⟩ H
          replace H := cond_some H
          rcases H with ⟨hc178, H⟩ | ⟨hc178, H⟩
          · refine gt hc178 (go_seq (rp 1 ?_))
            replace H := out_some H
            obtain ⟨_, H, he1⟩ := H
            have he := (hout1 _ he1).symm
            subst he
            replace H := Option.some.inj H
            subst H
            exact gr Tryd.func9 ⟨rfl, hI.pn⟩
          · refine ge hc178 (go_skip (go_inBlock (rp 3 ?_)))
            exact hin1 _ (Option.some.inj H).symm _ _ ⟨_, at_, hI⟩
        · refine r_in ?_
          replace H := cond_some H
          rcases H with ⟨hc179, H⟩ | ⟨hc179, H⟩
          · refine bx 0 [.p, .p, .p, .c true, .l 0 0, .p, .p, .p, .p] (gA (hI.grp 0 rfl)) _ (bZ (bndEq hc179)) ?_
            replace H := bind_some H
            obtain ⟨y180, hy181, H⟩ := H
            refine oe 9 rfl ?_
            refine ec (enter28 _) (ring_Fits_calls a0 A0z0 c0z0 A165 c166 y163.1 a1 a2 x132 (memOf _) _ (Inv.start _) (hI.rd hr0z0) hl0z0 (hI.row 1 rfl) (hI.rowle 1 rfl) _ hy181) ?_
            rintro _ _ ⟨rfl, hI'⟩
            replace hI := hI.call0 hI'
            clear hI'
            refine ⟨_, rfl, ?_⟩
            refine bp 10 2 (ro ?_)
            exact hJ177 (!y180) _ _ ⟨_, at_, hI.pick [0] (by decide) rfl⟩ H
          · refine bx 0 [.p, .p, .p, .c false, .p, .p, .p, .p, .p, .p, .p, .p] gO _ (bZ (bndEq hc179)) (ro ?_)
            exact hJ177 false _ _ ⟨_, at_, hI.pick [0] (by decide) rfl⟩ H
    · refine ge hc134 ?_
      refine go_exit rfl ?_
      refine go_seq (r_in (bg 0 [.l 0 0, .p] (gA (hI.grp 0 rfl)) ?_))
      replace H := bind_some H
      obtain ⟨y186, hy187, H⟩ := H
      refine oe 2 rfl ?_
      refine ec (enter29 _) (ring_Plain_calls a0 A0z0 c0z0 a1 (memOf _) _ (Inv.start _) (hI.rd hr0z0) hl0z0 _ hy187) ?_
      rintro _ _ ⟨A188, c189, rfl, hI'⟩
      replace hI := hI.call0 hI'
      clear hI'
      refine ⟨_, rfl, ?_⟩
      refine bp 3 5 (ro (go_seq (r_in (bg 0 [.l 0 0, .p] (gA (hI.grp 0 rfl)) ?_))))
      replace H := bind_some H
      obtain ⟨y194, hy195, H⟩ := H
      refine oe 2 rfl ?_
      refine ec (enter21 _) (graph_Order_calls a0 A0z0 c0z0 a1 (memOf _) _ (Inv.start _) (hI.rd hT) (hI.rd hr0z0) hl0z0 _ hy195) ?_
      rintro _ _ ⟨A196, c197, rfl, hI'⟩
      replace hI := hI.call0 hI'
      clear hI'
      refine ⟨_, rfl, ?_⟩
      refine bp 3 7 (ro (go_seq (r_in ?_)))
      replace H := cond_some H
      rcases H with ⟨hc199, H⟩ | ⟨hc199, H⟩
      · refine bx 0 [.p, .p, .c true, .p, .p, .p, .p, .p, .p, .p] gO _ (bZ (bndEq hc199)) (ro ?_)
        replace H := out_some H
        obtain ⟨_, H, he1⟩ := H
        have he := (hout1 _ he1).symm
        subst he
        replace H := Option.some.inj H
        subst H
        exact gr Tryd.func9 ⟨rfl, hI.pn⟩
      · refine bx 0 [.p, .p, .c false, .p, .p, .p, .p, .p, .p, .p] gO _ (bZ (bndEq hc199)) (ro ?_)
        replace H := out_some H
        obtain ⟨_, H, he1⟩ := H
        have he := (hout1 _ he1).symm
        subst he
        replace H := Option.some.inj H
        subst H
        exact gr Tryd.func9 ⟨rfl, hI.pn⟩

end Go.Proofs.YtncapkloanfmnaaDoorT
