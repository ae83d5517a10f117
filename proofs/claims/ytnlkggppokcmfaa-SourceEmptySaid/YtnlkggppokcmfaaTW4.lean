/- The walks, part 4: each call computes its plain function. -/
import Derived.Test.YtnlkggppokcmfaaTW3
import Derived.Test.YtnlkggppokcmfaaProg
namespace Go.Proofs.YtnlkggppokcmfaaT
open Go Go.Proofs Go.Proofs.YtnlkggppokcmfaaE
set_option linter.unusedVariables false
set_option linter.unusedSimpArgs false
set_option maxHeartbeats 0
set_option maxRecDepth 4096
theorem enter68 (a : Array Value) : Sem.pureRun Try.prog (callFunc 68 a) = some (.enter 68 a) := by kernel_rfl
theorem assizeref09zof_calls (a0 : History) (A0z0 : Option Addr) (c0z0 : Nat) (A0z1 : Option Addr) (c0z1 : Nat) (a1 : Int) (M : Mem) (w : World) (hI : Inv M w []) (hr0z0 : rdS tStr M.blk A0z0 a0.Keys) (hl0z0 : a0.Keys.length ≤ c0z0) (hr0z1 : rdS kTxn M.blk A0z1 a0.Txns) (hl0z1 : a0.Txns.length ≤ c0z1) (r : List Ask × List Spot) (H : assizeref09zof a0 a1 = some r) :
    Calls Try.prog 68 #[.agg #[vS A0z0 a0.Keys.length c0z0, vS A0z1 a0.Txns.length c0z1], vI a1] w fun e w' => ∃ (A2557 : Option Addr), ∃ (c2558 : Nat), ∃ (A2559 : Option Addr), ∃ (c2560 : Nat), e = .returned (.tuple #[vS A2557 r.1.length c2558, vS A2559 r.2.length c2560]) ∧ Inv M w' [.row kAsk 37 A2557 r.1.length c2558 r.1, .row kSpot 160 A2559 r.2.length c2560 r.2] := by
  refine cg Try.func68 ?_
  intro cs
  unfold assizeref09zof at H
  refine go_seq (r_in (oe 0 rfl ?_))
  refine e_box 25 _ (.agg #[vS A0z0 a0.Keys.length c0z0, vS A0z1 a0.Txns.length c0z1]) [vS A0z0 a0.Keys.length c0z0, vS A0z1 a0.Txns.length c0z1] rfl (by kernel_rfl) rfl hI ?_
  clear hI
  intro b2 _ hI
  refine bp 1 2 (ro (go_seq (rp 1 (go_seq (rp 1 (go_seq (r_in ?_)))))))
  replace H := must_some H
  obtain ⟨g14, H⟩ := H
  obtain ⟨b18, q19, rfl, cs17, hk16, hg15⟩ := rdS.open hr0z1 rfl g14
  obtain ⟨_, _, rfl, rfl, ⟨_, _, rfl, rfl, ⟨_, _, rfl, rfl, ⟨_, _, rfl, rfl, ⟨A20, c21, rfl, hl23, hr22⟩⟩⟩⟩⟩ := hk16
  refine bx 0 [.p, .l 0 1, .p, .x, .l 1 0] (gB (hI.grp 0 rfl) (hI.lies hg15)) _ (bZ g14) (oe 5 rfl ?_)
  refine e_alloc 41 (.agg #[vI 0, vI 0, vI 0, vI 0, vS none 0 0]) [vI 0, vI 0, vI 0, vI 0, vS none 0 0] rfl (by kernel_rfl) rfl hI ?_
  clear hI
  intro b24 _ hI
  refine oe 6 rfl ?_
  refine e_store 41 _ _ 1 b24 41 [vI 0, vI 0, vI 0, vI 0, vS none 0 0] [vI ((idx a0.Txns a1).Proc), vI ((idx a0.Txns a1).Status), vI ((idx a0.Txns a1).From), vI ((idx a0.Txns a1).To), vS A20 (((idx a0.Txns a1).Ops).length) c21] 0 (.agg #[vI ((idx a0.Txns a1).Proc), vI ((idx a0.Txns a1).Status), vI ((idx a0.Txns a1).From), vI ((idx a0.Txns a1).To), vS A20 (((idx a0.Txns a1).Ops).length) c21]) rfl (by kernel_rfl) (by kernel_rfl) (by kernel_rfl) (by kernel_rfl) hI rfl (by kernel_rfl) (by kernel_rfl) ?_
  clear hI
  intro _ hI
  refine ro (go_seq (go_seq (rg [.p, .l 0 1, .p] (gA (hI.grp 1 rfl)) ?_)))
  replace H := cond_some H
  rcases H with ⟨hc26, H⟩ | ⟨hc26, H⟩
  · refine gt hc26 (go_seq (rp 2 ?_))
    replace H := Option.some.inj H
    subst H
    exact gr Try.func68 ⟨none, 0, none, 0, rfl, ((hI.nilrow kAsk 37).nilrow kSpot 160).pick [2, 3] (by decide) rfl⟩
  · refine ge hc26 (go_skip (go_seq (go_seq (rp 1 (go_block ?_)))))
    refine go_iter (assizeref09zof.s1 a0 a1) (fun (l1596, l1599, x1602) f w => ∃ (j : Nat → Value) (A1597 : Option Addr) (c1598 : Nat) (A1600 : Option Addr) (c1601 : Nat), f = updL j [(1, vI a1), (6, vS A1597 l1596.length c1598), (7, vS A1600 l1599.length c1601), (8, vP b24 0), (9, vI x1602)] ∧ Inv M w [.row kAsk 37 A1597 l1596.length c1598 l1596, .row kSpot 160 A1600 l1599.length c1601 l1599, .blk b24 41 [vI ((idx a0.Txns a1).Proc), vI ((idx a0.Txns a1).Status), vI ((idx a0.Txns a1).From), vI ((idx a0.Txns a1).To), vS A20 (((idx a0.Txns a1).Ops).length) c21]]) H ⟨_, none, 0, none, 0, at_, ((hI.nilrow kAsk 37).nilrow kSpot 160).pick [2, 3, 1] (by decide) rfl⟩ ?_
    clear H hI
    rintro ⟨l1596, l1599, x1602⟩ _ _ o1 H ⟨_, A1597, c1598, A1600, c1601, rfl, hI⟩ hin1 hout1
    refine go_seq (go_seq (rg [.p, .p, .l 0 4, .p, .p] (gA (hI.grp 2 rfl)) ?_))
    replace H := cond_some H
    rcases H with ⟨hc1604, H⟩ | ⟨hc1604, H⟩
    · refine gt hc1604 (go_skip (go_seq ?_))
      refine go_block_join (o := o1) (fun (l1961, l1964) f w => ∃ (j : Nat → Value) (A1962 : Option Addr) (c1963 : Nat) (A1965 : Option Addr) (c1966 : Nat), f = updL j [(1, vI a1), (6, vS A1962 l1961.length c1963), (7, vS A1965 l1964.length c1966), (8, vP b24 0), (9, vI x1602)] ∧ Inv M w [.row kAsk 37 A1962 l1961.length c1963 l1961, .row kSpot 160 A1965 l1964.length c1966 l1964, .blk b24 41 [vI ((idx a0.Txns a1).Proc), vI ((idx a0.Txns a1).Status), vI ((idx a0.Txns a1).From), vI ((idx a0.Txns a1).To), vS A20 (((idx a0.Txns a1).Ops).length) c21]]) (fun (l1961, l1964) => assizeref09zof.j2 x1602 l1961 l1964) ?_ (fun hJ1967 => ?_)
      · clear H hI
        rintro ⟨l1961, l1964⟩ _ _ ⟨_, A1962, c1963, A1965, c1966, rfl, hI⟩ H
        refine rp 3 ?_
        exact hin1 _ (Option.some.inj H).symm _ _ ⟨_, A1962, c1963, A1965, c1966, at_, hI⟩
      · refine go_seq (r_in ?_)
        replace H := must_some H
        obtain ⟨g1979, H⟩ := H
        obtain ⟨b1983, q1984, rfl, cs1982, hk1981, hg1980⟩ := rdS.open hr22 rfl g1979
        obtain ⟨_, _, rfl, rfl, ⟨_, _, rfl, rfl, ⟨_, _, rfl, rfl, ⟨_, _, rfl, rfl, ⟨A1985, c1986, rfl, hl1988, hr1987⟩⟩⟩⟩⟩ := hk1981
        refine bx 0 [.p, .l 0 4, .p, .x, .l 1 0] (gB (hI.grp 2 rfl) (hI.lies hg1980)) _ (bZ g1979) (oe 5 rfl ?_)
        refine e_alloc 64 (.agg #[vI 0, vI 0, vI 0, vB false, vS none 0 0]) [vI 0, vI 0, vI 0, vB false, vS none 0 0] rfl (by kernel_rfl) rfl hI ?_
        clear hI
        intro b1989 _ hI
        refine oe 6 rfl ?_
        refine e_store 64 _ _ 3 b1989 64 [vI 0, vI 0, vI 0, vB false, vS none 0 0] [vI ((idx ((idx a0.Txns a1).Ops) x1602).Kind), vI ((idx ((idx a0.Txns a1).Ops) x1602).Key), vI ((idx ((idx a0.Txns a1).Ops) x1602).Arg), vB ((idx ((idx a0.Txns a1).Ops) x1602).Got), vS A1985 (((idx ((idx a0.Txns a1).Ops) x1602).Vals).length) c1986] 0 (.agg #[vI ((idx ((idx a0.Txns a1).Ops) x1602).Kind), vI ((idx ((idx a0.Txns a1).Ops) x1602).Key), vI ((idx ((idx a0.Txns a1).Ops) x1602).Arg), vB ((idx ((idx a0.Txns a1).Ops) x1602).Got), vS A1985 (((idx ((idx a0.Txns a1).Ops) x1602).Vals).length) c1986]) rfl (by kernel_rfl) (by kernel_rfl) (by kernel_rfl) (by kernel_rfl) hI rfl (by kernel_rfl) (by kernel_rfl) ?_
        clear hI
        intro _ hI
        refine ro (go_seq (go_seq (r_in (bg 0 [.p, .l 0 0] (gA (hI.grp 3 rfl)) ?_))))
        replace H := bind_some H
        obtain ⟨y1995, hy1996, H⟩ := H
        refine oe 2 rfl ?_
        refine ec (enter92 _) (assizeref05zWrites_calls ((idx ((idx a0.Txns a1).Ops) x1602).Kind) (memOf _) _ (Inv.start _) _ hy1996) ?_
        rintro _ _ ⟨rfl, hI'⟩
        replace hI := hI.call0 hI'
        clear hI'
        refine ⟨_, rfl, ?_⟩
        refine ro ?_
        replace H := cond_some H
        rcases H with ⟨hc1997, H⟩ | ⟨hc1997, H⟩
        · refine gt hc1997 ?_
          refine go_exit rfl ?_
          exact hJ1967 (l1596, l1599) _ _ ⟨_, A1597, c1598, A1600, c1601, at_, hI.pick [0, 1, 2] (by decide) rfl⟩ H
        · refine ge hc1997 (go_skip (go_seq (rp 1 (go_seq (go_seq (rp 1 (go_block ?_)))))))
          refine go_iter (assizeref09zof.s3 a0 a1 l1596 l1599 x1602) (fun (l2362, x2365) f w => ∃ (j : Nat → Value) (A2363 : Option Addr) (c2364 : Nat), f = updL j [(1, vI a1), (6, vS A1597 l1596.length c1598), (7, vS A1600 l1599.length c1601), (8, vP b24 0), (9, vI x1602), (10, vP b1989 0), (11, vS A2363 l2362.length c2364), (12, vI x2365)] ∧ Inv M w [.row kAsk 37 A1597 l1596.length c1598 l1596, .row kSpot 160 A1600 l1599.length c1601 l1599, .blk b24 41 [vI ((idx a0.Txns a1).Proc), vI ((idx a0.Txns a1).Status), vI ((idx a0.Txns a1).From), vI ((idx a0.Txns a1).To), vS (some ⟨b1983, q1984, none⟩) (((idx a0.Txns a1).Ops).length) c21], .blk b1989 64 [vI ((idx ((idx a0.Txns a1).Ops) x1602).Kind), vI ((idx ((idx a0.Txns a1).Ops) x1602).Key), vI ((idx ((idx a0.Txns a1).Ops) x1602).Arg), vB ((idx ((idx a0.Txns a1).Ops) x1602).Got), vS A1985 (((idx ((idx a0.Txns a1).Ops) x1602).Vals).length) c1986], .row (tInt .i64) 2 A2363 l2362.length c2364 l2362]) H ⟨_, none, 0, at_, (hI.nilrow (tInt .i64) 2)⟩ ?_
          clear H hI
          rintro ⟨l2362, x2365⟩ _ _ o2 H ⟨_, A2363, c2364, rfl, hI⟩ hin2 hout2
          refine go_seq (go_seq (rp 3 ?_))
          replace H := cond_some H
          rcases H with ⟨hc2367, H⟩ | ⟨hc2367, H⟩
          · refine gt hc2367 (go_skip (go_seq ?_))
            refine go_block_join (o := o2) (fun l2437 f w => ∃ (j : Nat → Value) (A2438 : Option Addr) (c2439 : Nat), f = updL j [(1, vI a1), (6, vS A1597 l1596.length c1598), (7, vS A1600 l1599.length c1601), (8, vP b24 0), (9, vI x1602), (10, vP b1989 0), (11, vS A2438 l2437.length c2439), (12, vI x2365)] ∧ Inv M w [.row kAsk 37 A1597 l1596.length c1598 l1596, .row kSpot 160 A1600 l1599.length c1601 l1599, .blk b24 41 [vI ((idx a0.Txns a1).Proc), vI ((idx a0.Txns a1).Status), vI ((idx a0.Txns a1).From), vI ((idx a0.Txns a1).To), vS (some ⟨b1983, q1984, none⟩) (((idx a0.Txns a1).Ops).length) c21], .blk b1989 64 [vI ((idx ((idx a0.Txns a1).Ops) x1602).Kind), vI ((idx ((idx a0.Txns a1).Ops) x1602).Key), vI ((idx ((idx a0.Txns a1).Ops) x1602).Arg), vB ((idx ((idx a0.Txns a1).Ops) x1602).Got), vS A1985 (((idx ((idx a0.Txns a1).Ops) x1602).Vals).length) c1986], .row (tInt .i64) 2 A2438 l2437.length c2439 l2437]) (fun l2437 => assizeref09zof.j4 x2365 l2437) ?_ (fun hJ2440 => ?_)
            · clear H hI
              rintro l2437 _ _ ⟨_, A2438, c2439, rfl, hI⟩ H
              refine rp 3 ?_
              exact hin2 _ (Option.some.inj H).symm _ _ ⟨_, A2438, c2439, at_, hI⟩
            · refine go_seq_join (o := o2) (fun b2459 f w => ∃ (j : Nat → Value), f = updL j [(1, vI a1), (6, vS A1597 l1596.length c1598), (7, vS A1600 l1599.length c1601), (8, vP b24 0), (9, vI x1602), (10, vP b1989 0), (11, vS A2363 l2362.length c2364), (12, vI x2365), (61, vB b2459)] ∧ Inv M w [.row kAsk 37 A1597 l1596.length c1598 l1596, .row kSpot 160 A1600 l1599.length c1601 l1599, .blk b24 41 [vI ((idx a0.Txns a1).Proc), vI ((idx a0.Txns a1).Status), vI ((idx a0.Txns a1).From), vI ((idx a0.Txns a1).To), vS (some ⟨b1983, q1984, none⟩) (((idx a0.Txns a1).Ops).length) c21], .blk b1989 64 [vI ((idx ((idx a0.Txns a1).Ops) x1602).Kind), vI ((idx ((idx a0.Txns a1).Ops) x1602).Key), vI ((idx ((idx a0.Txns a1).Ops) x1602).Arg), vB ((idx ((idx a0.Txns a1).Ops) x1602).Got), vS A1985 (((idx ((idx a0.Txns a1).Ops) x1602).Vals).length) c1986], .row (tInt .i64) 2 A2363 l2362.length c2364 l2362]) (fun b2459 => assizeref09zof.j5 a0 a1 l2362 x2365 b2459) ?_ (fun hJ2460 => ?_)
              · clear H hI
                rintro b2459 _ _ ⟨_, rfl, hI⟩ H
                replace H := cond_some H
                rcases H with ⟨hc2461, H⟩ | ⟨hc2461, H⟩
                · refine gt hc2461 (r_in ?_)
                  replace H := must_some H
                  obtain ⟨g2462, H⟩ := H
                  obtain ⟨cs2465, hk2464, hg2463⟩ := rdS.look hr22 rfl g2462
                  obtain ⟨_, _, rfl, rfl, ⟨_, _, rfl, rfl, ⟨_, _, rfl, rfl, ⟨_, _, rfl, rfl, ⟨A2466, c2467, rfl, hl2469, hr2468⟩⟩⟩⟩⟩ := hk2464
                  refine bx 0 [.p, .p, .l 0 4, .p, .x, .p, .l 1 2] (gB (hI.grp 2 rfl) (hI.lies hg2463)) _ (bZ g2462) (oe 7 rfl ?_)
                  refine e_partsS 35 2 1 _ _ _ #[vI ((idx ((idx a0.Txns a1).Ops) x2365).Arg)] [vI ((idx ((idx a0.Txns a1).Ops) x2365).Arg)] rfl rfl rfl rfl (by kernel_rfl) (by kernel_rfl) (by kernel_rfl) (by kernel_rfl) hI ?_
                  clear hI
                  intro b2470 _ hs2471 hI
                  replace H := must_some H
                  obtain ⟨g2472, H⟩ := H
                  refine oe 8 rfl ?_
                  refine e_append (tInt .i64) 35 0 2 _ _ _ _ A2363 l2362.length c2364 l2362 ([(idx ((idx a0.Txns a1).Ops) x2365).Arg] : List Int) b2470 0 1 1 [vI ((idx ((idx a0.Txns a1).Ops) x2365).Arg)] 4 [] [0, 1, 2, 3, 5] [] [.row kAsk 37 A1597 l1596.length c1598 l1596, .row kSpot 160 A1600 l1599.length c1601 l1599, .blk b24 41 [vI ((idx a0.Txns a1).Proc), vI ((idx a0.Txns a1).Status), vI ((idx a0.Txns a1).From), vI ((idx a0.Txns a1).To), vS (some ⟨b1983, q1984, none⟩) (((idx a0.Txns a1).Ops).length) c21], .blk b1989 64 [vI ((idx ((idx a0.Txns a1).Ops) x1602).Kind), vI ((idx ((idx a0.Txns a1).Ops) x1602).Key), vI ((idx ((idx a0.Txns a1).Ops) x1602).Arg), vB ((idx ((idx a0.Txns a1).Ops) x1602).Got), vS A1985 (((idx ((idx a0.Txns a1).Ops) x1602).Vals).length) c1986], .blk b2470 2 [vI ((idx ((idx a0.Txns a1).Ops) x2365).Arg)]] rfl (by kernel_rfl) (by kernel_rfl) rfl rfl rfl rfl rfl (by kernel_rfl) hI (by decide) rfl rfl rfl (hI.grp 5 rfl) g2472 (mks_cons (mk_flat (k := (tInt .i64)) ((idx ((idx a0.Txns a1).Ops) x2365).Arg) [vI ((idx ((idx a0.Txns a1).Ops) x2365).Arg)] rfl) mks_nil) ?_
                  clear hI
                  intro A2473 c2474 _ hI
                  replace hI := hI.pick (L' := [.row (tInt .i64) 2 A2473 ((l2362 ++ ([(idx ((idx a0.Txns a1).Ops) x2365).Arg] : List Int)).length) c2474 (l2362 ++ ([(idx ((idx a0.Txns a1).Ops) x2365).Arg] : List Int)), .row kAsk 37 A1597 l1596.length c1598 l1596, .row kSpot 160 A1600 l1599.length c1601 l1599, .blk b24 41 [vI ((idx a0.Txns a1).Proc), vI ((idx a0.Txns a1).Status), vI ((idx a0.Txns a1).From), vI ((idx a0.Txns a1).To), vS (some ⟨b1983, q1984, none⟩) (((idx a0.Txns a1).Ops).length) c21], .blk b1989 64 [vI ((idx ((idx a0.Txns a1).Ops) x1602).Kind), vI ((idx ((idx a0.Txns a1).Ops) x1602).Key), vI ((idx ((idx a0.Txns a1).Ops) x1602).Arg), vB ((idx ((idx a0.Txns a1).Ops) x1602).Got), vS A1985 (((idx ((idx a0.Txns a1).Ops) x1602).Vals).length) c1986]]) [0, 1, 2, 3, 4] (by decide) rfl
                  refine bp 9 1 (ro (go_inBlock ?_))
                  exact hJ2440 (l2362 ++ ([(idx ((idx a0.Txns a1).Ops) x2365).Arg] : List Int)) _ _ ⟨_, A2473, c2474, at_, hI.pick [1, 2, 3, 4, 0] (by decide) rfl⟩ H
                · refine ge hc2461 (go_skip (go_inBlock ?_))
                  exact hJ2440 l2362 _ _ ⟨_, A2363, c2364, at_, hI⟩ H
              · replace H := must_some H
                obtain ⟨g2475, H⟩ := H
                obtain ⟨cs2478, hk2477, hg2476⟩ := rdS.look hr22 rfl g2475
                obtain ⟨_, _, rfl, rfl, ⟨_, _, rfl, rfl, ⟨_, _, rfl, rfl, ⟨_, _, rfl, rfl, ⟨A2479, c2480, rfl, hl2482, hr2481⟩⟩⟩⟩⟩ := hk2477
                replace H := cond_some H
                rcases H with ⟨hc2483, H⟩ | ⟨hc2483, H⟩
                · obtain ⟨cs2486, hk2485, hg2484⟩ := rdS.look hr22 rfl g2475
                  obtain ⟨_, _, rfl, rfl, ⟨_, _, rfl, rfl, ⟨_, _, rfl, rfl, ⟨_, _, rfl, rfl, ⟨A2487, c2488, rfl, hl2490, hr2489⟩⟩⟩⟩⟩ := hk2485
                  replace H := bind_some H
                  obtain ⟨y2491, hy2492, H⟩ := H
                  refine go_held (fun w => Inv M w [.row kAsk 37 A1597 l1596.length c1598 l1596, .row kSpot 160 A1600 l1599.length c1601 l1599, .blk b24 41 [vI ((idx a0.Txns a1).Proc), vI ((idx a0.Txns a1).Status), vI ((idx a0.Txns a1).From), vI ((idx a0.Txns a1).To), vS (some ⟨b1983, q1984, none⟩) (((idx a0.Txns a1).Ops).length) c21], .blk b1989 64 [vI ((idx ((idx a0.Txns a1).Ops) x1602).Kind), vI ((idx ((idx a0.Txns a1).Ops) x1602).Key), vI ((idx ((idx a0.Txns a1).Ops) x1602).Arg), vB ((idx ((idx a0.Txns a1).Ops) x1602).Got), vS A1985 (((idx ((idx a0.Txns a1).Ops) x1602).Vals).length) c1986], .row (tInt .i64) 2 A2363 l2362.length c2364 l2362]) (by kernel_rfl) ?_
                  replace hI := hI.drew'
                  refine hx (n := 2) [(0, .p), (1, .l 0 4), (2, .p), (3, .x), (4, .p), (5, .l 1 1), (6, .p), (7, .l 2 1), (8, .p), (9, .c true), (10, .p), (11, .l 0 4), (12, .p), (13, .x), (14, .p), (15, .l 3 0)] (fun _ hS => (gD (hS.grp 2 rfl) (hS.lies hg2476) (hS.grp 3 rfl) (hS.lies hg2484))) hI _ (bC g2475 (bC (bndEq hc2483) (bZ g2475))) ?_
                  refine ho (n := 1) 16 rfl (ec (enter92 _) (assizeref05zWrites_calls ((idx ((idx a0.Txns a1).Ops) x2365).Kind) (memOf _) _ (Inv.start _) _ hy2492) ?_)
                  rintro _ _ ⟨rfl, hI'⟩
                  replace hI := hI.call0 hI'
                  clear hI'
                  refine ⟨_, rfl, ?_⟩
                  refine ⟨hI, ?_⟩
                  refine hg (n := 0) [(17, .p)] (fun _ hS => gO) hI (hd ?_)
                  exact hJ2460 y2491 _ _ ⟨_, at_, hI⟩ H
                · refine dx [.p, .l 0 4, .p, .x, .p, .l 1 1, .p, .l 2 1, .p, .c false, .p, .p, .p, .p, .p, .p, .p, .p] (gC (hI.grp 2 rfl) (hI.lies hg2476) (hI.grp 3 rfl)) _ (bC g2475 (bZ (bndEq hc2483))) hI ?_
                  clear hI
                  intro _ hI
                  exact hJ2460 false _ _ ⟨_, at_, hI⟩ H
          · refine ge hc2367 ?_
            refine go_exit rfl ?_
            refine go_seq (r_in (oe 0 rfl ?_))
            refine e_empty (α := Int) (tInt .i64) 35 2 _ rfl rfl rfl hI ?_
            clear hI
            intro b2497 _ hI
            refine bg 1 [.p, .l 0 4] (gA (hI.grp 3 rfl)) ?_
            replace H := must_some H
            obtain ⟨g2498, H⟩ := H
            refine oe 3 rfl ?_
            refine e_append_rd (kt := (tInt .i64)) 35 0 2 _ _ _ _ (some ⟨b2497, 0, none⟩) A1985 0 0 ([] : List Int) ((idx ((idx a0.Txns a1).Ops) x1602).Vals) c1986 5 [0, 1, 2, 3, 4] [.row kAsk 37 A1597 l1596.length c1598 l1596, .row kSpot 160 A1600 l1599.length c1601 l1599, .blk b24 41 [vI ((idx a0.Txns a1).Proc), vI ((idx a0.Txns a1).Status), vI ((idx a0.Txns a1).From), vI ((idx a0.Txns a1).To), vS (some ⟨b1983, q1984, none⟩) (((idx a0.Txns a1).Ops).length) c21], .blk b1989 64 [vI ((idx ((idx a0.Txns a1).Ops) x1602).Kind), vI ((idx ((idx a0.Txns a1).Ops) x1602).Key), vI ((idx ((idx a0.Txns a1).Ops) x1602).Arg), vB ((idx ((idx a0.Txns a1).Ops) x1602).Got), vS A1985 (((idx ((idx a0.Txns a1).Ops) x1602).Vals).length) c1986], .row (tInt .i64) 2 A2363 l2362.length c2364 l2362] rfl (by kernel_rfl) (by kernel_rfl) rfl rfl rfl rfl rfl (by kernel_rfl) hI (by decide) rfl (hI.rd hr1987) g2498 ?_
            clear hI
            intro A2499 c2500 _ hI
            refine bp 4 1 (ro ?_)
            refine go_seq_join (o := o2) (fun l2515 f w => ∃ (j : Nat → Value) (A2516 : Option Addr) (c2517 : Nat), f = updL j [(1, vI a1), (6, vS A1597 l1596.length c1598), (7, vS A1600 l1599.length c1601), (8, vP b24 0), (9, vI x1602), (10, vP b1989 0), (13, vS A2516 l2515.length c2517)] ∧ Inv M w [.row kAsk 37 A1597 l1596.length c1598 l1596, .row kSpot 160 A1600 l1599.length c1601 l1599, .blk b24 41 [vI ((idx a0.Txns a1).Proc), vI ((idx a0.Txns a1).Status), vI ((idx a0.Txns a1).From), vI ((idx a0.Txns a1).To), vS (some ⟨b1983, q1984, none⟩) (((idx a0.Txns a1).Ops).length) c21], .blk b1989 64 [vI ((idx ((idx a0.Txns a1).Ops) x1602).Kind), vI ((idx ((idx a0.Txns a1).Ops) x1602).Key), vI ((idx ((idx a0.Txns a1).Ops) x1602).Arg), vB ((idx ((idx a0.Txns a1).Ops) x1602).Got), vS A1985 (((idx ((idx a0.Txns a1).Ops) x1602).Vals).length) c1986], .row (tInt .i64) 2 A2516 l2515.length c2517 l2515]) (fun l2515 => assizeref09zof.j6 a0 a1 l1596 l1599 x1602 l2515) ?_ (fun hJ2518 => ?_)
            · clear H hI
              rintro l2515 _ _ ⟨_, A2516, c2517, rfl, hI⟩ H
              refine r_in (bg 0 [.p, .p, .p, .p, .l 0 1, .p, .p] (gA (hI.grp 3 rfl)) (oe 7 rfl ?_))
              refine e_partsS 27 37 1 _ _ _ #[vI a1, vI x1602, vI ((idx ((idx a0.Txns a1).Ops) x1602).Key), vS A2516 l2515.length c2517] [vI a1, vI x1602, vI ((idx ((idx a0.Txns a1).Ops) x1602).Key), vS A2516 l2515.length c2517] rfl rfl rfl rfl (by kernel_rfl) (by kernel_rfl) (by kernel_rfl) (by kernel_rfl) hI ?_
              clear hI
              intro b2519 _ hs2520 hI
              replace H := must_some H
              obtain ⟨g2521, H⟩ := H
              refine oe 8 rfl ?_
              refine e_append kAsk 27 0 37 _ _ _ _ A1597 l1596.length c1598 l1596 ([(⟨a1, x1602, (idx ((idx a0.Txns a1).Ops) x1602).Key, l2515⟩ : Ask)] : List Ask) b2519 0 1 1 [vI a1, vI x1602, vI ((idx ((idx a0.Txns a1).Ops) x1602).Key), vS A2516 l2515.length c2517] 0 [4] [1, 2, 3, 5] [.row (tInt .i64) 2 A2516 l2515.length c2517 l2515] [.row kSpot 160 A1600 l1599.length c1601 l1599, .blk b24 41 [vI ((idx a0.Txns a1).Proc), vI ((idx a0.Txns a1).Status), vI ((idx a0.Txns a1).From), vI ((idx a0.Txns a1).To), vS (some ⟨b1983, q1984, none⟩) (((idx a0.Txns a1).Ops).length) c21], .blk b1989 64 [vI ((idx ((idx a0.Txns a1).Ops) x1602).Kind), vI ((idx ((idx a0.Txns a1).Ops) x1602).Key), vI ((idx ((idx a0.Txns a1).Ops) x1602).Arg), vB ((idx ((idx a0.Txns a1).Ops) x1602).Got), vS A1985 (((idx ((idx a0.Txns a1).Ops) x1602).Vals).length) c1986], .blk b2519 37 [vI a1, vI x1602, vI ((idx ((idx a0.Txns a1).Ops) x1602).Key), vS A2516 l2515.length c2517]] rfl (by kernel_rfl) (by kernel_rfl) rfl rfl rfl rfl rfl (by kernel_rfl) hI (by decide) rfl rfl rfl (hI.grp 5 rfl) g2521 (mks_cons (mk_iso (g := fun g : Ask => (g.Txn, g.Place, g.Key, g.Base)) (x := (⟨a1, x1602, (idx ((idx a0.Txns a1).Ops) x1602).Key, l2515⟩ : Ask)) (mk_pair (mk_flat (k := (tInt .i64)) a1 [vI a1] rfl) (mk_pair (mk_flat (k := (tInt .i64)) x1602 [vI x1602] rfl) (mk_pair (mk_flat (k := (tInt .i64)) ((idx ((idx a0.Txns a1).Ops) x1602).Key) [vI ((idx ((idx a0.Txns a1).Ops) x1602).Key)] rfl) mk_row)))) mks_nil) ?_
              clear hI
              intro A2522 c2523 _ hI
              replace hI := hI.pick (L' := [.row kAsk 37 A2522 ((l1596 ++ ([(⟨a1, x1602, (idx ((idx a0.Txns a1).Ops) x1602).Key, l2515⟩ : Ask)] : List Ask)).length) c2523 (l1596 ++ ([(⟨a1, x1602, (idx ((idx a0.Txns a1).Ops) x1602).Key, l2515⟩ : Ask)] : List Ask)), .row kSpot 160 A1600 l1599.length c1601 l1599, .blk b24 41 [vI ((idx a0.Txns a1).Proc), vI ((idx a0.Txns a1).Status), vI ((idx a0.Txns a1).From), vI ((idx a0.Txns a1).To), vS (some ⟨b1983, q1984, none⟩) (((idx a0.Txns a1).Ops).length) c21], .blk b1989 64 [vI ((idx ((idx a0.Txns a1).Ops) x1602).Kind), vI ((idx ((idx a0.Txns a1).Ops) x1602).Key), vI ((idx ((idx a0.Txns a1).Ops) x1602).Arg), vB ((idx ((idx a0.Txns a1).Ops) x1602).Got), vS A1985 (((idx ((idx a0.Txns a1).Ops) x1602).Vals).length) c1986]]) [0, 1, 2, 3] (by decide) rfl
              refine bp 9 1 (ro (go_inBlock ?_))
              replace H := out_some H
              obtain ⟨_, H, he2⟩ := H
              have he := (hout2 _ he2).symm
              subst he
              exact hJ1967 (l1596 ++ ([(⟨a1, x1602, (idx ((idx a0.Txns a1).Ops) x1602).Key, l2515⟩ : Ask)] : List Ask), l1599) _ _ ⟨_, A2522, c2523, A1600, c1601, at_, hI.pick [0, 1, 2] (by decide) rfl⟩ H
            · refine go_seq (rp 3 ?_)
              replace H := cond_some H
              rcases H with ⟨hc2524, H⟩ | ⟨hc2524, H⟩
              · refine gt hc2524 (go_seq ?_)
                replace H := bind_some H
                obtain ⟨y2531, hy2532, H⟩ := H
                replace H := bind_some H
                obtain ⟨y2533, hy2534, H⟩ := H
                refine go_held (fun w => Inv M w [.row (tInt .i64) 2 A2499 ((([] : List Int) ++ ((idx ((idx a0.Txns a1).Ops) x1602).Vals)).length) c2500 (([] : List Int) ++ ((idx ((idx a0.Txns a1).Ops) x1602).Vals)), .row kAsk 37 A1597 l1596.length c1598 l1596, .row kSpot 160 A1600 l1599.length c1601 l1599, .blk b24 41 [vI ((idx a0.Txns a1).Proc), vI ((idx a0.Txns a1).Status), vI ((idx a0.Txns a1).From), vI ((idx a0.Txns a1).To), vS (some ⟨b1983, q1984, none⟩) (((idx a0.Txns a1).Ops).length) c21], .blk b1989 64 [vI ((idx ((idx a0.Txns a1).Ops) x1602).Kind), vI ((idx ((idx a0.Txns a1).Ops) x1602).Key), vI ((idx ((idx a0.Txns a1).Ops) x1602).Arg), vB ((idx ((idx a0.Txns a1).Ops) x1602).Got), vS A1985 (((idx ((idx a0.Txns a1).Ops) x1602).Vals).length) c1986], .row (tInt .i64) 2 A2363 l2362.length c2364 l2362]) (by kernel_rfl) ?_
                replace hI := hI.drew'
                refine hg (n := 7) [(0, .p), (1, .l 0 0), (3, .p), (4, .l 0 4), (5, .p)] (fun _ hS => (gA (hS.grp 4 rfl))) hI ?_
                refine ho (n := 6) 2 rfl (ec (enter87 _) (assizeref05zOf_calls ((idx ((idx a0.Txns a1).Ops) x1602).Kind) (memOf _) _ (Inv.start _) _ hy2532) ?_)
                rintro _ _ ⟨rfl, hI'⟩
                replace hI := hI.call0 hI'
                clear hI'
                refine ⟨_, rfl, ?_⟩
                refine ⟨hI, ?_⟩
                refine ho (n := 5) 6 rfl (ec (enter93 _) (assizeref08zBefore_calls y2531 A1985 c1986 ((idx ((idx a0.Txns a1).Ops) x1602).Vals) A2363 c2364 l2362 (memOf _) _ (Inv.start _) (hI.rd hr1987) hl1988 (hI.row 5 rfl) (hI.rowle 5 rfl) _ hy2534) ?_)
                rintro _ _ ⟨A2535, c2536, rfl, hI'⟩
                replace hI := hI.call0 hI'
                clear hI'
                refine ⟨_, rfl, ?_⟩
                refine ⟨(hI.pk [0, 1, 2, 3, 4, 5]), ?_⟩
                refine hg (n := 0) [(7, .p), (8, .p), (9, .p), (10, .p), (11, .p)] (fun _ hS => gO) (hI.pk [0, 1, 2, 3, 4, 5]) (hd (go_seq (go_seq (rp 2 ?_))))
                replace H := cond_some H
                rcases H with ⟨hc2543, H⟩ | ⟨hc2543, H⟩
                · refine gt hc2543 (go_seq (r_in (bp 0 4 (oe 4 rfl ?_))))
                  refine e_partsS 75 160 1 _ _ _ #[vI a1, vI x1602] [vI a1, vI x1602] rfl rfl rfl rfl (by kernel_rfl) (by kernel_rfl) (by kernel_rfl) (by kernel_rfl) hI ?_
                  clear hI
                  intro b2549 _ hs2550 hI
                  replace H := must_some H
                  obtain ⟨g2551, H⟩ := H
                  refine oe 5 rfl ?_
                  refine e_append kSpot 75 0 160 _ _ _ _ A1600 l1599.length c1601 l1599 ([(⟨a1, x1602⟩ : Spot)] : List Spot) b2549 0 1 1 [vI a1, vI x1602] 2 [] [0, 1, 3, 4, 5, 6, 7] [] [.row (tInt .i64) 2 A2499 ((([] : List Int) ++ ((idx ((idx a0.Txns a1).Ops) x1602).Vals)).length) c2500 (([] : List Int) ++ ((idx ((idx a0.Txns a1).Ops) x1602).Vals)), .row kAsk 37 A1597 l1596.length c1598 l1596, .blk b24 41 [vI ((idx a0.Txns a1).Proc), vI ((idx a0.Txns a1).Status), vI ((idx a0.Txns a1).From), vI ((idx a0.Txns a1).To), vS (some ⟨b1983, q1984, none⟩) (((idx a0.Txns a1).Ops).length) c21], .blk b1989 64 [vI ((idx ((idx a0.Txns a1).Ops) x1602).Kind), vI ((idx ((idx a0.Txns a1).Ops) x1602).Key), vI ((idx ((idx a0.Txns a1).Ops) x1602).Arg), vB ((idx ((idx a0.Txns a1).Ops) x1602).Got), vS A1985 (((idx ((idx a0.Txns a1).Ops) x1602).Vals).length) c1986], .row (tInt .i64) 2 A2363 l2362.length c2364 l2362, .row (tInt .i64) 2 A2535 y2533.1.length c2536 y2533.1, .blk b2549 160 [vI a1, vI x1602]] rfl (by kernel_rfl) (by kernel_rfl) rfl rfl rfl rfl rfl (by kernel_rfl) hI (by decide) rfl rfl rfl (hI.grp 7 rfl) g2551 (mks_cons (mk_flat (k := kSpot) (⟨a1, x1602⟩ : Spot) [vI a1, vI x1602] rfl) mks_nil) ?_
                  clear hI
                  intro A2552 c2553 _ hI
                  replace hI := hI.pick (L' := [.row kSpot 160 A2552 ((l1599 ++ ([(⟨a1, x1602⟩ : Spot)] : List Spot)).length) c2553 (l1599 ++ ([(⟨a1, x1602⟩ : Spot)] : List Spot)), .row (tInt .i64) 2 A2499 ((([] : List Int) ++ ((idx ((idx a0.Txns a1).Ops) x1602).Vals)).length) c2500 (([] : List Int) ++ ((idx ((idx a0.Txns a1).Ops) x1602).Vals)), .row kAsk 37 A1597 l1596.length c1598 l1596, .blk b24 41 [vI ((idx a0.Txns a1).Proc), vI ((idx a0.Txns a1).Status), vI ((idx a0.Txns a1).From), vI ((idx a0.Txns a1).To), vS (some ⟨b1983, q1984, none⟩) (((idx a0.Txns a1).Ops).length) c21], .blk b1989 64 [vI ((idx ((idx a0.Txns a1).Ops) x1602).Kind), vI ((idx ((idx a0.Txns a1).Ops) x1602).Key), vI ((idx ((idx a0.Txns a1).Ops) x1602).Arg), vB ((idx ((idx a0.Txns a1).Ops) x1602).Got), vS A1985 (((idx ((idx a0.Txns a1).Ops) x1602).Vals).length) c1986], .row (tInt .i64) 2 A2363 l2362.length c2364 l2362, .row (tInt .i64) 2 A2535 y2533.1.length c2536 y2533.1]) [0, 1, 2, 3, 4, 5, 6] (by decide) rfl
                  refine bp 6 1 (ro ?_)
                  refine go_exit rfl ?_
                  replace H := out_some H
                  obtain ⟨_, H, he2⟩ := H
                  have he := (hout2 _ he2).symm
                  subst he
                  exact hJ1967 (l1596, l1599 ++ ([(⟨a1, x1602⟩ : Spot)] : List Spot)) _ _ ⟨_, A1597, c1598, A2552, c2553, at_, hI.pick [2, 0, 3] (by decide) rfl⟩ H
                · refine ge hc2543 (go_skip (go_seq (go_seq (rg [.p, .l 0 0, .p] (gA (hI.grp 4 rfl)) ?_))))
                  replace H := cond_some H
                  rcases H with ⟨hc2555, H⟩ | ⟨hc2555, H⟩
                  · refine gt hc2555 ?_
                    refine go_exit rfl ?_
                    replace H := out_some H
                    obtain ⟨_, H, he2⟩ := H
                    have he := (hout2 _ he2).symm
                    subst he
                    exact hJ1967 (l1596, l1599) _ _ ⟨_, A1597, c1598, A1600, c1601, at_, hI.pick [1, 2, 3] (by decide) rfl⟩ H
                  · refine ge hc2555 (go_skip (rp 2 ?_))
                    exact hJ2518 y2533.1 _ _ ⟨_, A2535, c2536, at_, hI.pick [1, 2, 3, 4, 6] (by decide) rfl⟩ H
              · refine ge hc2524 (go_skip ?_)
                exact hJ2518 (([] : List Int) ++ ((idx ((idx a0.Txns a1).Ops) x1602).Vals)) _ _ ⟨_, A2499, c2500, at_, hI.pick [1, 2, 3, 4, 0] (by decide) rfl⟩ H
    · refine ge hc1604 ?_
      refine go_exit rfl ?_
      refine go_seq (rp 4 ?_)
      replace H := out_some H
      obtain ⟨_, H, he1⟩ := H
      have he := (hout1 _ he1).symm
      subst he
      replace H := Option.some.inj H
      subst H
      exact gr Try.func68 ⟨A1597, c1598, A1600, c1601, rfl, hI.pick [0, 1] (by decide) rfl⟩
theorem enter37 (a : Array Value) : Sem.pureRun Try.prog (callFunc 37 a) = some (.enter 37 a) := by kernel_rfl
theorem assizeref09zAll_calls (a0 : History) (A0z0 : Option Addr) (c0z0 : Nat) (A0z1 : Option Addr) (c0z1 : Nat) (M : Mem) (w : World) (hI : Inv M w []) (hr0z0 : rdS tStr M.blk A0z0 a0.Keys) (hl0z0 : a0.Keys.length ≤ c0z0) (hr0z1 : rdS kTxn M.blk A0z1 a0.Txns) (hl0z1 : a0.Txns.length ≤ c0z1) (r : List Ask × List Spot) (H : assizeref09zAll a0 = some r) :
    Calls Try.prog 37 #[.agg #[vS A0z0 a0.Keys.length c0z0, vS A0z1 a0.Txns.length c0z1]] w fun e w' => ∃ (A281 : Option Addr), ∃ (c282 : Nat), ∃ (A283 : Option Addr), ∃ (c284 : Nat), e = .returned (.tuple #[vS A281 r.1.length c282, vS A283 r.2.length c284]) ∧ Inv M w' [.row kAsk 37 A281 r.1.length c282 r.1, .row kSpot 160 A283 r.2.length c284 r.2] := by
  refine cg Try.func37 ?_
  intro cs
  unfold assizeref09zAll at H
  refine go_seq (r_in (oe 0 rfl ?_))
  refine e_box 25 _ (.agg #[vS A0z0 a0.Keys.length c0z0, vS A0z1 a0.Txns.length c0z1]) [vS A0z0 a0.Keys.length c0z0, vS A0z1 a0.Txns.length c0z1] rfl (by kernel_rfl) rfl hI ?_
  clear hI
  intro b2 _ hI
  refine bp 1 2 (ro (go_seq (rp 1 (go_seq (rp 1 (go_seq (go_seq (rp 1 (go_block ?_)))))))))
  refine go_iter (assizeref09zAll.s1 a0) (fun (l226, l229, x232) f w => ∃ (j : Nat → Value) (A227 : Option Addr) (c228 : Nat) (A230 : Option Addr) (c231 : Nat), f = updL j [(1, vP b2 0), (4, vS A227 l226.length c228), (5, vS A230 l229.length c231), (6, vI x232)] ∧ Inv M w [.blk b2 25 [vS A0z0 a0.Keys.length c0z0, vS A0z1 a0.Txns.length c0z1], .row kAsk 37 A227 l226.length c228 l226, .row kSpot 160 A230 l229.length c231 l229]) H ⟨_, none, 0, none, 0, at_, ((hI.nilrow kAsk 37).nilrow kSpot 160)⟩ ?_
  clear H hI
  rintro ⟨l226, l229, x232⟩ _ _ o1 H ⟨_, A227, c228, A230, c231, rfl, hI⟩ hin1 hout1
  refine go_seq (go_seq (rg [.p, .p, .l 0 1, .p, .p] (gA (hI.grp 0 rfl)) ?_))
  replace H := cond_some H
  rcases H with ⟨hc234, H⟩ | ⟨hc234, H⟩
  · refine gt hc234 (go_skip (go_seq (go_block (go_seq (r_in (bg 0 [.l 0 0, .p] (gA (hI.grp 0 rfl)) ?_))))))
    replace H := bind_some H
    obtain ⟨y265, hy266, H⟩ := H
    refine oe 2 rfl ?_
    refine ec (enter68 _) (assizeref09zof_calls a0 A0z0 c0z0 A0z1 c0z1 x232 (memOf _) _ (Inv.start _) (hI.rd hr0z0) hl0z0 (hI.rd hr0z1) hl0z1 _ hy266) ?_
    rintro _ _ ⟨A267, c268, A269, c270, rfl, hI'⟩
    replace hI := hI.call0 hI'
    clear hI'
    refine ⟨_, rfl, ?_⟩
    refine bp 3 5 (ro (go_seq (r_in (bp 0 2 ?_))))
    replace H := must_some H
    obtain ⟨g274, H⟩ := H
    refine oe 2 rfl ?_
    refine e_append_move kAsk 27 0 37 _ _ _ _ A227 A267 l226.length c228 y265.1.length c268 l226 y265.1 1 3 [0, 2, 4] [.blk b2 25 [vS A0z0 a0.Keys.length c0z0, vS A0z1 a0.Txns.length c0z1], .row kSpot 160 A230 l229.length c231 l229, .row kSpot 160 A269 y265.2.length c270 y265.2] rfl (by kernel_rfl) (by kernel_rfl) rfl rfl rfl rfl rfl (by kernel_rfl) hI (by decide) rfl g274 ?_
    clear hI
    intro A275 c276 _ hI
    refine bp 3 1 (ro (r_in (bp 0 2 ?_)))
    replace H := must_some H
    obtain ⟨g277, H⟩ := H
    refine oe 2 rfl ?_
    refine e_append_rd (kt := kSpot) 75 0 160 _ _ _ _ A230 A269 l229.length c231 l229 y265.2 c270 2 [0, 1, 3] [.row kAsk 37 A275 ((l226 ++ y265.1).length) c276 (l226 ++ y265.1), .blk b2 25 [vS A0z0 a0.Keys.length c0z0, vS A0z1 a0.Txns.length c0z1], .row kSpot 160 A269 y265.2.length c270 y265.2] rfl (by kernel_rfl) (by kernel_rfl) rfl rfl rfl rfl rfl (by kernel_rfl) hI (by decide) rfl (hI.row 3 rfl) g277 ?_
    clear hI
    intro A278 c279 _ hI
    refine bp 3 1 (ro (go_inBlock (rp 3 ?_)))
    exact hin1 _ (Option.some.inj H).symm _ _ ⟨_, A275, c276, A278, c279, at_, hI.pick [2, 1, 0] (by decide) rfl⟩
  · refine ge hc234 ?_
    refine go_exit rfl ?_
    refine go_seq (rp 4 ?_)
    replace H := out_some H
    obtain ⟨_, H, he1⟩ := H
    have he := (hout1 _ he1).symm
    subst he
    replace H := Option.some.inj H
    subst H
    exact gr Try.func37 ⟨A227, c228, A230, c231, rfl, hI.pick [1, 2] (by decide) rfl⟩
theorem enter69 (a : Array Value) : Sem.pureRun Try.prog (callFunc 69 a) = some (.enter 69 a) := by kernel_rfl
theorem assizeref10zkind_calls (a0 : History) (A0z0 : Option Addr) (c0z0 : Nat) (A0z1 : Option Addr) (c0z1 : Nat) (a1 : Ask) (A1z0 : Option Addr) (c1z0 : Nat) (M : Mem) (w : World) (hI : Inv M w []) (hr0z0 : rdS tStr M.blk A0z0 a0.Keys) (hl0z0 : a0.Keys.length ≤ c0z0) (hr0z1 : rdS kTxn M.blk A0z1 a0.Txns) (hl0z1 : a0.Txns.length ≤ c0z1) (hr1z0 : rdS (tInt .i64) M.blk A1z0 a1.Base) (hl1z0 : a1.Base.length ≤ c1z0) (r : Int) (H : assizeref10zkind a0 a1 = some r) :
    Calls Try.prog 69 #[.agg #[vS A0z0 a0.Keys.length c0z0, vS A0z1 a0.Txns.length c0z1], .agg #[vI a1.Txn, vI a1.Place, vI a1.Key, vS A1z0 a1.Base.length c1z0]] w fun e w' => e = .returned (vI r) ∧ Inv M w' [] := by
  refine cg Try.func69 ?_
  intro cs
  unfold assizeref10zkind at H
  refine go_seq (r_in (oe 0 rfl ?_))
  refine e_box 25 _ (.agg #[vS A0z0 a0.Keys.length c0z0, vS A0z1 a0.Txns.length c0z1]) [vS A0z0 a0.Keys.length c0z0, vS A0z1 a0.Txns.length c0z1] rfl (by kernel_rfl) rfl hI ?_
  clear hI
  intro b3 _ hI
  refine oe 1 rfl ?_
  refine e_box 37 _ (.agg #[vI a1.Txn, vI a1.Place, vI a1.Key, vS A1z0 a1.Base.length c1z0]) [vI a1.Txn, vI a1.Place, vI a1.Key, vS A1z0 a1.Base.length c1z0] rfl (by kernel_rfl) rfl hI ?_
  clear hI
  intro b4 _ hI
  refine bp 2 1 (ro (go_seq ?_))
  replace H := must_some H
  obtain ⟨g27, H⟩ := H
  obtain ⟨b31, q32, rfl, cs30, hk29, hg28⟩ := rdS.open hr0z1 rfl g27
  obtain ⟨_, _, rfl, rfl, ⟨_, _, rfl, rfl, ⟨_, _, rfl, rfl, ⟨_, _, rfl, rfl, ⟨A33, c34, rfl, hl36, hr35⟩⟩⟩⟩⟩ := hk29
  replace H := must_some H
  obtain ⟨g37, H⟩ := H
  obtain ⟨b41, q42, rfl, cs40, hk39, hg38⟩ := rdS.open hr35 rfl g37
  obtain ⟨_, _, rfl, rfl, ⟨_, _, rfl, rfl, ⟨_, _, rfl, rfl, ⟨_, _, rfl, rfl, ⟨A43, c44, rfl, hl46, hr45⟩⟩⟩⟩⟩ := hk39
  replace H := bind_some H
  obtain ⟨y47, hy48, H⟩ := H
  refine go_held (fun w => Inv M w [.blk b3 25 [vS A0z0 a0.Keys.length c0z0, vS (some ⟨b31, q32, none⟩) a0.Txns.length c0z1], .blk b4 37 [vI a1.Txn, vI a1.Place, vI a1.Key, vS A1z0 a1.Base.length c1z0]]) (by kernel_rfl) ?_
  replace hI := hI.drew'
  refine hx (n := 2) [(0, .p), (1, .l 0 1), (2, .p), (3, .l 1 0), (4, .x), (5, .p), (6, .l 2 4), (7, .p), (8, .l 1 1), (9, .x), (10, .p), (11, .l 3 0)] (fun _ hS => (gD (hS.grp 0 rfl) (hS.grp 1 rfl) (hS.lies hg28) (hS.lies hg38))) hI _ (bC g27 (bZ g37)) ?_
  refine ho (n := 1) 12 rfl (ec (enter87 _) (assizeref05zOf_calls ((idx ((idx a0.Txns a1.Txn).Ops) a1.Place).Kind) (memOf _) _ (Inv.start _) _ hy48) ?_)
  rintro _ _ ⟨rfl, hI'⟩
  replace hI := hI.call0 hI'
  clear hI'
  refine ⟨_, rfl, ?_⟩
  refine ⟨hI, ?_⟩
  refine hg (n := 0) [(13, .p)] (fun _ hS => gO) hI (hd ?_)
  replace H := Option.some.inj H
  subst H
  exact gr Try.func69 ⟨rfl, hI.pn⟩
theorem enter72 (a : Array Value) : Sem.pureRun Try.prog (callFunc 72 a) = some (.enter 72 a) := by kernel_rfl
theorem assizeref05zWrote_calls (a0 : History) (A0z0 : Option Addr) (c0z0 : Nat) (A0z1 : Option Addr) (c0z1 : Nat) (a1 : Int) (a2 : Int) (M : Mem) (w : World) (hI : Inv M w []) (hr0z0 : rdS tStr M.blk A0z0 a0.Keys) (hl0z0 : a0.Keys.length ≤ c0z0) (hr0z1 : rdS kTxn M.blk A0z1 a0.Txns) (hl0z1 : a0.Txns.length ≤ c0z1) (r : List Int) (H : assizeref05zWrote a0 a1 a2 = some r) :
    Calls Try.prog 72 #[.agg #[vS A0z0 a0.Keys.length c0z0, vS A0z1 a0.Txns.length c0z1], vI a1, vI a2] w fun e w' => ∃ (A557 : Option Addr), ∃ (c558 : Nat), e = .returned (vS A557 r.length c558) ∧ Inv M w' [.row (tInt .i64) 2 A557 r.length c558 r] := by
  refine cg Try.func72 ?_
  intro cs
  unfold assizeref05zWrote at H
  refine go_seq (r_in (oe 0 rfl ?_))
  refine e_box 25 _ (.agg #[vS A0z0 a0.Keys.length c0z0, vS A0z1 a0.Txns.length c0z1]) [vS A0z0 a0.Keys.length c0z0, vS A0z1 a0.Txns.length c0z1] rfl (by kernel_rfl) rfl hI ?_
  clear hI
  intro b2 _ hI
  refine bp 1 1 (ro (go_seq (rp 1 (go_seq (go_seq (rp 1 (go_block ?_)))))))
  refine go_iter (assizeref05zWrote.s1 a0 a1 a2) (fun (l407, x410) f w => ∃ (j : Nat → Value) (A408 : Option Addr) (c409 : Nat), f = updL j [(1, vI a1), (2, vI a2), (3, vP b2 0), (7, vS A408 l407.length c409), (8, vI x410)] ∧ Inv M w [.blk b2 25 [vS A0z0 a0.Keys.length c0z0, vS A0z1 a0.Txns.length c0z1], .row (tInt .i64) 2 A408 l407.length c409 l407]) H ⟨_, none, 0, at_, (hI.nilrow (tInt .i64) 2)⟩ ?_
  clear H hI
  rintro ⟨l407, x410⟩ _ _ o1 H ⟨_, A408, c409, rfl, hI⟩ hin1 hout1
  refine go_seq (go_seq (r_in ?_))
  replace H := must_some H
  obtain ⟨g432, H⟩ := H
  obtain ⟨b436, q437, rfl, cs435, hk434, hg433⟩ := rdS.open hr0z1 rfl g432
  obtain ⟨_, _, rfl, rfl, ⟨_, _, rfl, rfl, ⟨_, _, rfl, rfl, ⟨_, _, rfl, rfl, ⟨A438, c439, rfl, hl441, hr440⟩⟩⟩⟩⟩ := hk434
  refine bx 0 [.p, .p, .l 0 1, .p, .x, .p, .l 1 4, .p, .p] (gB (hI.grp 0 rfl) (hI.lies hg433)) _ (bZ g432) (ro ?_)
  replace H := cond_some H
  rcases H with ⟨hc442, H⟩ | ⟨hc442, H⟩
  · refine gt hc442 (go_skip (go_seq ?_))
    refine go_block_join (o := o1) (fun l502 f w => ∃ (j : Nat → Value) (A503 : Option Addr) (c504 : Nat), f = updL j [(1, vI a1), (2, vI a2), (3, vP b2 0), (7, vS A503 l502.length c504), (8, vI x410)] ∧ Inv M w [.blk b2 25 [vS A0z0 a0.Keys.length c0z0, vS (some ⟨b436, q437, none⟩) a0.Txns.length c0z1], .row (tInt .i64) 2 A503 l502.length c504 l502]) (fun l502 => assizeref05zWrote.j2 x410 l502) ?_ (fun hJ505 => ?_)
    · clear H hI
      rintro l502 _ _ ⟨_, A503, c504, rfl, hI⟩ H
      refine rp 3 ?_
      exact hin1 _ (Option.some.inj H).symm _ _ ⟨_, A503, c504, at_, hI⟩
    · refine go_seq (r_in ?_)
      obtain ⟨cs526, hk525, hg524⟩ := rdS.look hr0z1 rfl g432
      obtain ⟨_, _, rfl, rfl, ⟨_, _, rfl, rfl, ⟨_, _, rfl, rfl, ⟨_, _, rfl, rfl, ⟨A527, c528, rfl, hl530, hr529⟩⟩⟩⟩⟩ := hk525
      replace H := must_some H
      obtain ⟨g531, H⟩ := H
      obtain ⟨b535, q536, rfl, cs534, hk533, hg532⟩ := rdS.open hr529 rfl g531
      obtain ⟨_, _, rfl, rfl, ⟨_, _, rfl, rfl, ⟨_, _, rfl, rfl, ⟨_, _, rfl, rfl, ⟨A537, c538, rfl, hl540, hr539⟩⟩⟩⟩⟩ := hk533
      refine bx 0 [.p, .l 0 1, .p, .x, .p, .l 1 4, .p, .x, .l 2 0] (gC (hI.grp 0 rfl) (hI.lies hg524) (hI.lies hg532)) _ (bC g432 (bZ g531)) (oe 9 rfl ?_)
      refine e_alloc 64 (.agg #[vI 0, vI 0, vI 0, vB false, vS none 0 0]) [vI 0, vI 0, vI 0, vB false, vS none 0 0] rfl (by kernel_rfl) rfl hI ?_
      clear hI
      intro b541 _ hI
      refine oe 10 rfl ?_
      refine e_store 64 _ _ 2 b541 64 [vI 0, vI 0, vI 0, vB false, vS none 0 0] [vI ((idx ((idx a0.Txns a1).Ops) x410).Kind), vI ((idx ((idx a0.Txns a1).Ops) x410).Key), vI ((idx ((idx a0.Txns a1).Ops) x410).Arg), vB ((idx ((idx a0.Txns a1).Ops) x410).Got), vS A537 (((idx ((idx a0.Txns a1).Ops) x410).Vals).length) c538] 0 (.agg #[vI ((idx ((idx a0.Txns a1).Ops) x410).Kind), vI ((idx ((idx a0.Txns a1).Ops) x410).Key), vI ((idx ((idx a0.Txns a1).Ops) x410).Arg), vB ((idx ((idx a0.Txns a1).Ops) x410).Got), vS A537 (((idx ((idx a0.Txns a1).Ops) x410).Vals).length) c538]) rfl (by kernel_rfl) (by kernel_rfl) (by kernel_rfl) (by kernel_rfl) hI rfl (by kernel_rfl) (by kernel_rfl) ?_
      clear hI
      intro _ hI
      refine ro ?_
      refine go_seq_join (o := o1) (fun b545 f w => ∃ (j : Nat → Value), f = updL j [(1, vI a1), (2, vI a2), (3, vP b2 0), (7, vS A408 l407.length c409), (8, vI x410), (9, vP b541 0), (38, vB b545)] ∧ Inv M w [.blk b2 25 [vS A0z0 a0.Keys.length c0z0, vS (some ⟨b436, q437, none⟩) a0.Txns.length c0z1], .row (tInt .i64) 2 A408 l407.length c409 l407, .blk b541 64 [vI ((idx ((idx a0.Txns a1).Ops) x410).Kind), vI ((idx ((idx a0.Txns a1).Ops) x410).Key), vI ((idx ((idx a0.Txns a1).Ops) x410).Arg), vB ((idx ((idx a0.Txns a1).Ops) x410).Got), vS A537 (((idx ((idx a0.Txns a1).Ops) x410).Vals).length) c538]]) (fun b545 => assizeref05zWrote.j3 a0 a1 l407 x410 b545) ?_ (fun hJ546 => ?_)
      · clear H hI
        rintro b545 _ _ ⟨_, rfl, hI⟩ H
        replace H := cond_some H
        rcases H with ⟨hc547, H⟩ | ⟨hc547, H⟩
        · refine gt hc547 (r_in (bg 0 [.p, .p, .l 0 2] (gA (hI.grp 2 rfl)) (oe 3 rfl ?_)))
          refine e_partsS 35 2 1 _ _ _ #[vI ((idx ((idx a0.Txns a1).Ops) x410).Arg)] [vI ((idx ((idx a0.Txns a1).Ops) x410).Arg)] rfl rfl rfl rfl (by kernel_rfl) (by kernel_rfl) (by kernel_rfl) (by kernel_rfl) hI ?_
          clear hI
          intro b548 _ hs549 hI
          replace H := must_some H
          obtain ⟨g550, H⟩ := H
          refine oe 4 rfl ?_
          refine e_append (tInt .i64) 35 0 2 _ _ _ _ A408 l407.length c409 l407 ([(idx ((idx a0.Txns a1).Ops) x410).Arg] : List Int) b548 0 1 1 [vI ((idx ((idx a0.Txns a1).Ops) x410).Arg)] 1 [] [0, 2, 3] [] [.blk b2 25 [vS A0z0 a0.Keys.length c0z0, vS (some ⟨b436, q437, none⟩) a0.Txns.length c0z1], .blk b541 64 [vI ((idx ((idx a0.Txns a1).Ops) x410).Kind), vI ((idx ((idx a0.Txns a1).Ops) x410).Key), vI ((idx ((idx a0.Txns a1).Ops) x410).Arg), vB ((idx ((idx a0.Txns a1).Ops) x410).Got), vS A537 (((idx ((idx a0.Txns a1).Ops) x410).Vals).length) c538], .blk b548 2 [vI ((idx ((idx a0.Txns a1).Ops) x410).Arg)]] rfl (by kernel_rfl) (by kernel_rfl) rfl rfl rfl rfl rfl (by kernel_rfl) hI (by decide) rfl rfl rfl (hI.grp 3 rfl) g550 (mks_cons (mk_flat (k := (tInt .i64)) ((idx ((idx a0.Txns a1).Ops) x410).Arg) [vI ((idx ((idx a0.Txns a1).Ops) x410).Arg)] rfl) mks_nil) ?_
          clear hI
          intro A551 c552 _ hI
          replace hI := hI.pick (L' := [.row (tInt .i64) 2 A551 ((l407 ++ ([(idx ((idx a0.Txns a1).Ops) x410).Arg] : List Int)).length) c552 (l407 ++ ([(idx ((idx a0.Txns a1).Ops) x410).Arg] : List Int)), .blk b2 25 [vS A0z0 a0.Keys.length c0z0, vS (some ⟨b436, q437, none⟩) a0.Txns.length c0z1], .blk b541 64 [vI ((idx ((idx a0.Txns a1).Ops) x410).Kind), vI ((idx ((idx a0.Txns a1).Ops) x410).Key), vI ((idx ((idx a0.Txns a1).Ops) x410).Arg), vB ((idx ((idx a0.Txns a1).Ops) x410).Got), vS A537 (((idx ((idx a0.Txns a1).Ops) x410).Vals).length) c538]]) [0, 1, 2] (by decide) rfl
          refine bp 5 1 (ro (go_inBlock ?_))
          exact hJ505 (l407 ++ ([(idx ((idx a0.Txns a1).Ops) x410).Arg] : List Int)) _ _ ⟨_, A551, c552, at_, hI.pick [1, 0] (by decide) rfl⟩ H
        · refine ge hc547 (go_skip (go_inBlock ?_))
          exact hJ505 l407 _ _ ⟨_, A408, c409, at_, hI.pick [0, 1] (by decide) rfl⟩ H
      · refine r_in ?_
        replace H := cond_some H
        rcases H with ⟨hc553, H⟩ | ⟨hc553, H⟩
        · refine bx 0 [.p, .l 0 1, .p, .p, .c true, .p, .l 0 0] (gA (hI.grp 2 rfl)) _ (bZ (bndEq hc553)) ?_
          replace H := bind_some H
          obtain ⟨y554, hy555, H⟩ := H
          refine oe 7 rfl ?_
          refine ec (enter92 _) (assizeref05zWrites_calls ((idx ((idx a0.Txns a1).Ops) x410).Kind) (memOf _) _ (Inv.start _) _ hy555) ?_
          rintro _ _ ⟨rfl, hI'⟩
          replace hI := hI.call0 hI'
          clear hI'
          refine ⟨_, rfl, ?_⟩
          refine bp 8 1 (ro ?_)
          exact hJ546 y554 _ _ ⟨_, at_, hI⟩ H
        · refine bx 0 [.p, .l 0 1, .p, .p, .c false, .p, .p, .p, .p] (gA (hI.grp 2 rfl)) _ (bZ (bndEq hc553)) (ro ?_)
          exact hJ546 false _ _ ⟨_, at_, hI⟩ H
  · refine ge hc442 ?_
    refine go_exit rfl ?_
    refine go_seq (rp 2 ?_)
    replace H := out_some H
    obtain ⟨_, H, he1⟩ := H
    have he := (hout1 _ he1).symm
    subst he
    replace H := Option.some.inj H
    subst H
    exact gr Try.func72 ⟨A408, c409, rfl, hI.pick [1] (by decide) rfl⟩
theorem enter71 (a : Array Value) : Sem.pureRun Try.prog (callFunc 71 a) = some (.enter 71 a) := by kernel_rfl
theorem assizeref10zothers_calls (a0 : History) (A0z0 : Option Addr) (c0z0 : Nat) (A0z1 : Option Addr) (c0z1 : Nat) (a1 : Ask) (A1z0 : Option Addr) (c1z0 : Nat) (M : Mem) (w : World) (hI : Inv M w []) (hr0z0 : rdS tStr M.blk A0z0 a0.Keys) (hl0z0 : a0.Keys.length ≤ c0z0) (hr0z1 : rdS kTxn M.blk A0z1 a0.Txns) (hl0z1 : a0.Txns.length ≤ c0z1) (hr1z0 : rdS (tInt .i64) M.blk A1z0 a1.Base) (hl1z0 : a1.Base.length ≤ c1z0) (r : List Int) (H : assizeref10zothers a0 a1 = some r) :
    Calls Try.prog 71 #[.agg #[vS A0z0 a0.Keys.length c0z0, vS A0z1 a0.Txns.length c0z1], .agg #[vI a1.Txn, vI a1.Place, vI a1.Key, vS A1z0 a1.Base.length c1z0]] w fun e w' => ∃ (A389 : Option Addr), ∃ (c390 : Nat), e = .returned (vS A389 r.length c390) ∧ Inv M w' [.row (tInt .i64) 3 A389 r.length c390 r] := by
  refine cg Try.func71 ?_
  intro cs
  unfold assizeref10zothers at H
  refine go_seq (r_in (oe 0 rfl ?_))
  refine e_box 25 _ (.agg #[vS A0z0 a0.Keys.length c0z0, vS A0z1 a0.Txns.length c0z1]) [vS A0z0 a0.Keys.length c0z0, vS A0z1 a0.Txns.length c0z1] rfl (by kernel_rfl) rfl hI ?_
  clear hI
  intro b3 _ hI
  refine oe 1 rfl ?_
  refine e_box 37 _ (.agg #[vI a1.Txn, vI a1.Place, vI a1.Key, vS A1z0 a1.Base.length c1z0]) [vI a1.Txn, vI a1.Place, vI a1.Key, vS A1z0 a1.Base.length c1z0] rfl (by kernel_rfl) rfl hI ?_
  clear hI
  intro b4 _ hI
  refine bp 2 1 (ro (go_seq (rp 1 (go_seq (go_seq (rp 1 (go_block ?_)))))))
  refine go_iter (assizeref10zothers.s1 a0 a1) (fun (l289, x292) f w => ∃ (j : Nat → Value) (A290 : Option Addr) (c291 : Nat), f = updL j [(2, vP b3 0), (3, vP b4 0), (5, vS A290 l289.length c291), (6, vI x292)] ∧ Inv M w [.blk b3 25 [vS A0z0 a0.Keys.length c0z0, vS A0z1 a0.Txns.length c0z1], .blk b4 37 [vI a1.Txn, vI a1.Place, vI a1.Key, vS A1z0 a1.Base.length c1z0], .row (tInt .i64) 3 A290 l289.length c291 l289]) H ⟨_, none, 0, at_, (hI.nilrow (tInt .i64) 3)⟩ ?_
  clear H hI
  rintro ⟨l289, x292⟩ _ _ o1 H ⟨_, A290, c291, rfl, hI⟩ hin1 hout1
  refine go_seq (go_seq (rg [.p, .p, .l 0 1, .p, .p] (gA (hI.grp 0 rfl)) ?_))
  replace H := cond_some H
  rcases H with ⟨hc294, H⟩ | ⟨hc294, H⟩
  · refine gt hc294 (go_skip (go_seq ?_))
    refine go_block_join (o := o1) (fun l344 f w => ∃ (j : Nat → Value) (A345 : Option Addr) (c346 : Nat), f = updL j [(2, vP b3 0), (3, vP b4 0), (5, vS A345 l344.length c346), (6, vI x292)] ∧ Inv M w [.blk b3 25 [vS A0z0 a0.Keys.length c0z0, vS A0z1 a0.Txns.length c0z1], .blk b4 37 [vI a1.Txn, vI a1.Place, vI a1.Key, vS A1z0 a1.Base.length c1z0], .row (tInt .i64) 3 A345 l344.length c346 l344]) (fun l344 => assizeref10zothers.j2 x292 l344) ?_ (fun hJ347 => ?_)
    · clear H hI
      rintro l344 _ _ ⟨_, A345, c346, rfl, hI⟩ H
      refine rp 3 ?_
      exact hin1 _ (Option.some.inj H).symm _ _ ⟨_, A345, c346, at_, hI⟩
    · refine go_seq_join (o := o1) (fun b364 f w => ∃ (j : Nat → Value), f = updL j [(2, vP b3 0), (3, vP b4 0), (5, vS A290 l289.length c291), (6, vI x292), (35, vB b364)] ∧ Inv M w [.blk b3 25 [vS A0z0 a0.Keys.length c0z0, vS A0z1 a0.Txns.length c0z1], .blk b4 37 [vI a1.Txn, vI a1.Place, vI a1.Key, vS A1z0 a1.Base.length c1z0], .row (tInt .i64) 3 A290 l289.length c291 l289]) (fun b364 => assizeref10zothers.j3 l289 x292 b364) ?_ (fun hJ365 => ?_)
      · clear H hI
        rintro b364 _ _ ⟨_, rfl, hI⟩ H
        replace H := cond_some H
        rcases H with ⟨hc366, H⟩ | ⟨hc366, H⟩
        · refine gt hc366 (r_in (bp 0 2 (oe 2 rfl ?_)))
          refine e_partsS 32 3 1 _ _ _ #[vI x292] [vI x292] rfl rfl rfl rfl (by kernel_rfl) (by kernel_rfl) (by kernel_rfl) (by kernel_rfl) hI ?_
          clear hI
          intro b367 _ hs368 hI
          replace H := must_some H
          obtain ⟨g369, H⟩ := H
          refine oe 3 rfl ?_
          refine e_append (tInt .i64) 32 0 3 _ _ _ _ A290 l289.length c291 l289 ([x292] : List Int) b367 0 1 1 [vI x292] 2 [] [0, 1, 3] [] [.blk b3 25 [vS A0z0 a0.Keys.length c0z0, vS A0z1 a0.Txns.length c0z1], .blk b4 37 [vI a1.Txn, vI a1.Place, vI a1.Key, vS A1z0 a1.Base.length c1z0], .blk b367 3 [vI x292]] rfl (by kernel_rfl) (by kernel_rfl) rfl rfl rfl rfl rfl (by kernel_rfl) hI (by decide) rfl rfl rfl (hI.grp 3 rfl) g369 (mks_cons (mk_flat (k := (tInt .i64)) x292 [vI x292] rfl) mks_nil) ?_
          clear hI
          intro A370 c371 _ hI
          replace hI := hI.pick (L' := [.row (tInt .i64) 3 A370 ((l289 ++ ([x292] : List Int)).length) c371 (l289 ++ ([x292] : List Int)), .blk b3 25 [vS A0z0 a0.Keys.length c0z0, vS A0z1 a0.Txns.length c0z1], .blk b4 37 [vI a1.Txn, vI a1.Place, vI a1.Key, vS A1z0 a1.Base.length c1z0]]) [0, 1, 2] (by decide) rfl
          refine bp 4 1 (ro (go_inBlock ?_))
          exact hJ347 (l289 ++ ([x292] : List Int)) _ _ ⟨_, A370, c371, at_, hI.pick [1, 2, 0] (by decide) rfl⟩ H
        · refine ge hc366 (go_skip (go_inBlock ?_))
          exact hJ347 l289 _ _ ⟨_, A290, c291, at_, hI⟩ H
      · refine r_in ?_
        replace H := cond_some H
        rcases H with ⟨hc372, H⟩ | ⟨hc372, H⟩
        · replace H := must_some H
          obtain ⟨g373, H⟩ := H
          obtain ⟨b377, q378, rfl, cs376, hk375, hg374⟩ := rdS.open hr0z1 rfl g373
          obtain ⟨_, _, rfl, rfl, ⟨_, _, rfl, rfl, ⟨_, _, rfl, rfl, ⟨_, _, rfl, rfl, ⟨A379, c380, rfl, hl382, hr381⟩⟩⟩⟩⟩ := hk375
          replace H := cond_some H
          rcases H with ⟨hc383, H⟩ | ⟨hc383, H⟩
          · refine bx 0 [.p, .p, .l 0 0, .p, .c true, .p, .l 1 1, .p, .x, .p, .l 2 1, .p, .p, .c true, .l 1 0, .p, .p, .l 0 2] (gC (hI.grp 1 rfl) (hI.grp 0 rfl) (hI.lies hg374)) _ (bC (bndEq hc372) (bC g373 (bZ (bndEq hc383)))) ?_
            replace H := bind_some H
            obtain ⟨y384, hy385, H⟩ := H
            refine oe 18 rfl ?_
            refine ec (enter72 _) (assizeref05zWrote_calls a0 A0z0 c0z0 (some ⟨b377, q378, none⟩) c0z1 x292 a1.Key (memOf _) _ (Inv.start _) (hI.rd hr0z0) hl0z0 (hI.rd hr0z1) hl0z1 _ hy385) ?_
            rintro _ _ ⟨A386, c387, rfl, hI'⟩
            replace hI := hI.call0 hI'
            clear hI'
            refine ⟨_, rfl, ?_⟩
            refine bp 19 3 (ro ?_)
            exact hJ365 (decide ((y384.length : Int) > 0)) _ _ ⟨_, at_, hI.pick [0, 1, 2] (by decide) rfl⟩ H
          · refine bx 0 [.p, .p, .l 0 0, .p, .c true, .p, .l 1 1, .p, .x, .p, .l 2 1, .p, .p, .c false, .p, .p, .p, .p, .p, .p, .p, .p] (gC (hI.grp 1 rfl) (hI.grp 0 rfl) (hI.lies hg374)) _ (bC (bndEq hc372) (bC g373 (bZ (bndEq hc383)))) (ro ?_)
            exact hJ365 false _ _ ⟨_, at_, hI⟩ H
        · refine bx 0 [.p, .p, .l 0 0, .p, .c false, .p, .p, .p, .p, .p, .p, .p, .p, .p, .p, .p, .p, .p, .p, .p, .p, .p] (gA (hI.grp 1 rfl)) _ (bZ (bndEq hc372)) (ro ?_)
          exact hJ365 false _ _ ⟨_, at_, hI⟩ H
  · refine ge hc294 ?_
    refine go_exit rfl ?_
    refine go_seq (rp 2 ?_)
    replace H := out_some H
    obtain ⟨_, H, he1⟩ := H
    have he := (hout1 _ he1).symm
    subst he
    replace H := Option.some.inj H
    subst H
    exact gr Try.func71 ⟨A290, c291, rfl, hI.pick [2] (by decide) rfl⟩
theorem enter94 (a : Array Value) : Sem.pureRun Try.prog (callFunc 94 a) = some (.enter 94 a) := by kernel_rfl
theorem assizeref10zSum_calls (a0 : History) (A0z0 : Option Addr) (c0z0 : Nat) (A0z1 : Option Addr) (c0z1 : Nat) (a1 : Int) (a2 : Int) (M : Mem) (w : World) (hI : Inv M w []) (hr0z0 : rdS tStr M.blk A0z0 a0.Keys) (hl0z0 : a0.Keys.length ≤ c0z0) (hr0z1 : rdS kTxn M.blk A0z1 a0.Txns) (hl0z1 : a0.Txns.length ≤ c0z1) (r : Int) (H : assizeref10zSum a0 a1 a2 = some r) :
    Calls Try.prog 94 #[.agg #[vS A0z0 a0.Keys.length c0z0, vS A0z1 a0.Txns.length c0z1], vI a1, vI a2] w fun e w' => e = .returned (vI r) ∧ Inv M w' [] := by
  refine cg Try.func94 ?_
  intro cs
  unfold assizeref10zSum at H
  refine go_seq (r_in (oe 0 rfl ?_))
  refine e_box 25 _ (.agg #[vS A0z0 a0.Keys.length c0z0, vS A0z1 a0.Txns.length c0z1]) [vS A0z0 a0.Keys.length c0z0, vS A0z1 a0.Txns.length c0z1] rfl (by kernel_rfl) rfl hI ?_
  clear hI
  intro b2 _ hI
  refine bp 1 1 (ro (go_seq (r_in (bg 0 [.l 0 0, .p, .p] (gA (hI.grp 0 rfl)) ?_))))
  replace H := bind_some H
  obtain ⟨y7, hy8, H⟩ := H
  refine oe 3 rfl ?_
  refine ec (enter72 _) (assizeref05zWrote_calls a0 A0z0 c0z0 A0z1 c0z1 a1 a2 (memOf _) _ (Inv.start _) (hI.rd hr0z0) hl0z0 (hI.rd hr0z1) hl0z1 _ hy8) ?_
  rintro _ _ ⟨A9, c10, rfl, hI'⟩
  replace hI := hI.call0 hI'
  clear hI'
  refine ⟨_, rfl, ?_⟩
  refine bp 4 1 (ro (go_seq (rp 1 (go_seq (go_seq (rp 1 (go_block ?_)))))))
  refine go_iter (assizeref10zSum.s1 y7) (fun (x69, x70) f w => ∃ (j : Nat → Value), f = updL j [(7, vS A9 y7.length c10), (8, vI x69), (9, vI x70)] ∧ Inv M w [.row (tInt .i64) 2 A9 y7.length c10 y7]) H ⟨_, at_, hI.pick [1] (by decide) rfl⟩ ?_
  clear H hI
  rintro ⟨x69, x70⟩ _ _ o1 H ⟨_, rfl, hI⟩ hin1 hout1
  refine go_seq (go_seq (rp 4 ?_))
  replace H := cond_some H
  rcases H with ⟨hc72, H⟩ | ⟨hc72, H⟩
  · refine gt hc72 (go_skip (go_seq (go_block (r_in ?_))))
    replace H := must_some H
    obtain ⟨g77, H⟩ := H
    obtain ⟨b78, rfl⟩ := hI.rowAt 0 rfl g77
    refine bx 0 [.p, .p, .p, .x, .l 0 0, .p, .p] (gA ((rdS.flook (hI.row 0 rfl) (hI.rowlen 0 rfl) g77).ok)) _ (bZ g77) (ro (go_inBlock (rp 3 ?_)))
    exact hin1 _ (Option.some.inj H).symm _ _ ⟨_, at_, hI⟩
  · refine ge hc72 ?_
    refine go_exit rfl ?_
    refine go_seq (rp 2 ?_)
    replace H := out_some H
    obtain ⟨_, H, he1⟩ := H
    have he := (hout1 _ he1).symm
    subst he
    replace H := Option.some.inj H
    subst H
    exact gr Try.func94 ⟨rfl, hI.pn⟩
theorem enter70 (a : Array Value) : Sem.pureRun Try.prog (callFunc 70 a) = some (.enter 70 a) := by kernel_rfl
theorem assizeref10zcounts_calls (a0 : History) (A0z0 : Option Addr) (c0z0 : Nat) (A0z1 : Option Addr) (c0z1 : Nat) (a1 : Ask) (A1z0 : Option Addr) (c1z0 : Nat) (M : Mem) (w : World) (hI : Inv M w []) (hr0z0 : rdS tStr M.blk A0z0 a0.Keys) (hl0z0 : a0.Keys.length ≤ c0z0) (hr0z1 : rdS kTxn M.blk A0z1 a0.Txns) (hl0z1 : a0.Txns.length ≤ c0z1) (hr1z0 : rdS (tInt .i64) M.blk A1z0 a1.Base) (hl1z0 : a1.Base.length ≤ c1z0) (r : List Int) (H : assizeref10zcounts a0 a1 = some r) :
    Calls Try.prog 70 #[.agg #[vS A0z0 a0.Keys.length c0z0, vS A0z1 a0.Txns.length c0z1], .agg #[vI a1.Txn, vI a1.Place, vI a1.Key, vS A1z0 a1.Base.length c1z0]] w fun e w' => ∃ (A1596 : Option Addr), ∃ (c1597 : Nat), e = .returned (vS A1596 r.length c1597) ∧ Inv M w' [.row (tInt .i64) 3 A1596 r.length c1597 r] := by
  refine cg Try.func70 ?_
  intro cs
  unfold assizeref10zcounts at H
  refine go_seq (r_in (oe 0 rfl ?_))
  refine e_box 25 _ (.agg #[vS A0z0 a0.Keys.length c0z0, vS A0z1 a0.Txns.length c0z1]) [vS A0z0 a0.Keys.length c0z0, vS A0z1 a0.Txns.length c0z1] rfl (by kernel_rfl) rfl hI ?_
  clear hI
  intro b3 _ hI
  refine oe 1 rfl ?_
  refine e_box 37 _ (.agg #[vI a1.Txn, vI a1.Place, vI a1.Key, vS A1z0 a1.Base.length c1z0]) [vI a1.Txn, vI a1.Place, vI a1.Key, vS A1z0 a1.Base.length c1z0] rfl (by kernel_rfl) rfl hI ?_
  clear hI
  intro b4 _ hI
  refine bp 2 1 (ro (go_seq (r_in (bg 0 [.l 0 0, .l 1 0] (gB (hI.grp 0 rfl) (hI.grp 1 rfl)) ?_))))
  replace H := bind_some H
  obtain ⟨y9, hy10, H⟩ := H
  refine oe 2 rfl ?_
  refine ec (enter71 _) (assizeref10zothers_calls a0 A0z0 c0z0 A0z1 c0z1 a1 A1z0 c1z0 (memOf _) _ (Inv.start _) (hI.rd hr0z0) hl0z0 (hI.rd hr0z1) hl0z1 (hI.rd hr1z0) hl1z0 _ hy10) ?_
  rintro _ _ ⟨A11, c12, rfl, hI'⟩
  replace hI := hI.call0 hI'
  clear hI'
  refine ⟨_, rfl, ?_⟩
  refine bp 3 1 (ro (go_seq (r_in (bp 0 2 ?_))))
  replace H := must_some H
  obtain ⟨g15, H⟩ := H
  refine oe 2 rfl ?_
  refine e_make tBool (default : Bool) 161 4 _ _ _ (vB false) (y9.length : Int) rfl rfl rfl rfl rfl rfl (fun _ => rfl) (by kernel_rfl) (by kernel_rfl) g15 hI ?_
  clear hI
  intro b16 _ hI
  refine bp 3 1 (ro (go_seq (go_seq (rp 1 (go_block ?_)))))
  refine go_is 6 (vS (some ⟨b16, 0, none⟩) ((y9.length : Int).toNat) ((y9.length : Int).toNat)) (vS (some ⟨b16, 0, none⟩) ((List.replicate (y9.length : Int).toNat (default : Bool)).length) ((y9.length : Int).toNat)) (by kernel_rfl) (by first | rfl | simp only [List.length_set, List.length_replicate, List.length_nil]) ?_
  replace hI := hI.renum 3 rfl
  refine go_iter (assizeref10zcounts.s1 a0 a1 y9) (fun (l890, x893) f w => ∃ (j : Nat → Value) (A891 : Option Addr) (c892 : Nat), f = updL j [(2, vP b3 0), (3, vP b4 0), (5, vS A11 y9.length c12), (6, vS A891 l890.length c892), (7, vI x893)] ∧ Inv M w [.blk b3 25 [vS A0z0 a0.Keys.length c0z0, vS A0z1 a0.Txns.length c0z1], .blk b4 37 [vI a1.Txn, vI a1.Place, vI a1.Key, vS A1z0 a1.Base.length c1z0], .row (tInt .i64) 3 A11 y9.length c12 y9, .row tBool 4 A891 l890.length c892 l890]) H ⟨_, (some ⟨b16, 0, none⟩), (y9.length : Int).toNat, at_, hI⟩ ?_
  clear H hI
  rintro ⟨l890, x893⟩ _ _ o1 H ⟨_, A891, c892, rfl, hI⟩ hin1 hout1
  refine go_seq (go_seq (r_in ?_))
  replace H := must_some H
  obtain ⟨g897, H⟩ := H
  refine bx 0 [.p, .p, .p, .x, .p] gO _ (bZ g897) (ro ?_)
  replace H := cond_some H
  rcases H with ⟨hc898, H⟩ | ⟨hc898, H⟩
  · refine gt hc898 (go_skip (go_seq (go_block (go_seq (rp 1 (go_seq (go_seq (rp 1 (go_block ?_)))))))))
    refine go_iter (assizeref10zcounts.s2 a0 a1 y9 l890 x893) (fun (x1195, x1196) f w => ∃ (j : Nat → Value), f = updL j [(2, vP b3 0), (3, vP b4 0), (5, vS A11 y9.length c12), (6, vS A891 l890.length c892), (7, vI x893), (8, vI x1195), (9, vI x1196)] ∧ Inv M w [.blk b3 25 [vS A0z0 a0.Keys.length c0z0, vS A0z1 a0.Txns.length c0z1], .blk b4 37 [vI a1.Txn, vI a1.Place, vI a1.Key, vS A1z0 a1.Base.length c1z0], .row (tInt .i64) 3 A11 y9.length c12 y9, .row tBool 4 A891 l890.length c892 l890]) H ⟨_, at_, hI⟩ ?_
    clear H hI
    rintro ⟨x1195, x1196⟩ _ _ o2 H ⟨_, rfl, hI⟩ hin2 hout2
    refine go_seq (go_seq (rp 4 ?_))
    replace H := cond_some H
    rcases H with ⟨hc1198, H⟩ | ⟨hc1198, H⟩
    · refine gt hc1198 (go_skip (go_seq ?_))
      refine go_block_join (o := o2) (fun x1212 f w => ∃ (j : Nat → Value), f = updL j [(2, vP b3 0), (3, vP b4 0), (5, vS A11 y9.length c12), (6, vS A891 l890.length c892), (7, vI x893), (8, vI x1212), (9, vI x1196)] ∧ Inv M w [.blk b3 25 [vS A0z0 a0.Keys.length c0z0, vS A0z1 a0.Txns.length c0z1], .blk b4 37 [vI a1.Txn, vI a1.Place, vI a1.Key, vS A1z0 a1.Base.length c1z0], .row (tInt .i64) 3 A11 y9.length c12 y9, .row tBool 4 A891 l890.length c892 l890]) (fun x1212 => assizeref10zcounts.j3 x1196 x1212) ?_ (fun hJ1213 => ?_)
      · clear H hI
        rintro x1212 _ _ ⟨_, rfl, hI⟩ H
        refine rp 3 ?_
        exact hin2 _ (Option.some.inj H).symm _ _ ⟨_, at_, hI⟩
      · refine go_seq (r_in ?_)
        replace H := must_some H
        obtain ⟨g1215, H⟩ := H
        refine bx 0 [.p, .p, .x, .p, .p] gO _ (bZ g1215) (ro ?_)
        replace H := cond_some H
        rcases H with ⟨hc1216, H⟩ | ⟨hc1216, H⟩
        · refine gt hc1216 ?_
          replace H := must_some H
          obtain ⟨g1217, H⟩ := H
          obtain ⟨b1218, rfl⟩ := hI.rowAt 2 rfl g1217
          replace H := bind_some H
          obtain ⟨y1219, hy1220, H⟩ := H
          refine go_held (fun w => Inv M w [.blk b3 25 [vS A0z0 a0.Keys.length c0z0, vS A0z1 a0.Txns.length c0z1], .blk b4 37 [vI a1.Txn, vI a1.Place, vI a1.Key, vS A1z0 a1.Base.length c1z0], .row (tInt .i64) 3 (some ⟨b1218, 0, none⟩) y9.length c12 y9, .row tBool 4 A891 l890.length c892 l890]) (by kernel_rfl) ?_
          replace hI := hI.drew'
          refine hx (n := 3) [(0, .p), (1, .l 0 0), (2, .p), (3, .p), (4, .x), (5, .l 1 0), (6, .p), (7, .l 2 2)] (fun _ hS => (gC (hS.grp 0 rfl) ((rdS.flook (hS.row 2 rfl) (hS.rowlen 2 rfl) g1217).ok) (hS.grp 1 rfl))) hI _ (bZ g1217) ?_
          refine ho (n := 2) 8 rfl (ec (enter94 _) (assizeref10zSum_calls a0 A0z0 c0z0 A0z1 c0z1 (idx y9 x1196) a1.Key (memOf _) _ (Inv.start _) (hI.rd hr0z0) hl0z0 (hI.rd hr0z1) hl0z1 _ hy1220) ?_)
          rintro _ _ ⟨rfl, hI'⟩
          replace hI := hI.call0 hI'
          clear hI'
          refine ⟨_, rfl, ?_⟩
          refine ⟨hI, ?_⟩
          refine hg (n := 0) [(9, .p), (10, .p)] (fun _ hS => gO) hI (hd (go_inBlock ?_))
          exact hJ1213 (w64 (x1195 + y1219)) _ _ ⟨_, at_, hI⟩ H
        · refine ge hc1216 (go_skip (go_inBlock ?_))
          exact hJ1213 x1195 _ _ ⟨_, at_, hI⟩ H
    · refine ge hc1198 ?_
      refine go_exit rfl ?_
      refine go_seq (rp 1 (go_block ?_))
      refine go_iter (assizeref10zcounts.s4 a1 y9 x893 x1195) (fun (l1330, x1333) f w => ∃ (j : Nat → Value) (A1331 : Option Addr) (c1332 : Nat), f = updL j [(2, vP b3 0), (3, vP b4 0), (5, vS A11 y9.length c12), (6, vS A1331 l1330.length c1332), (7, vI x893), (8, vI x1195), (10, vI x1333)] ∧ Inv M w [.blk b3 25 [vS A0z0 a0.Keys.length c0z0, vS A0z1 a0.Txns.length c0z1], .blk b4 37 [vI a1.Txn, vI a1.Place, vI a1.Key, vS A1z0 a1.Base.length c1z0], .row (tInt .i64) 3 A11 y9.length c12 y9, .row tBool 4 A1331 l1330.length c1332 l1330]) H ⟨_, A891, c892, at_, hI⟩ ?_
      clear H hI
      rintro ⟨l1330, x1333⟩ _ _ o3 H ⟨_, A1331, c1332, rfl, hI⟩ hin3 hout3
      refine go_seq ?_
      refine go_seq_join (o := o3) (fun b1344 f w => ∃ (j : Nat → Value), f = updL j [(2, vP b3 0), (3, vP b4 0), (5, vS A11 y9.length c12), (6, vS A1331 l1330.length c1332), (7, vI x893), (8, vI x1195), (10, vI x1333), (58, vB b1344)] ∧ Inv M w [.blk b3 25 [vS A0z0 a0.Keys.length c0z0, vS A0z1 a0.Txns.length c0z1], .blk b4 37 [vI a1.Txn, vI a1.Place, vI a1.Key, vS A1z0 a1.Base.length c1z0], .row (tInt .i64) 3 A11 y9.length c12 y9, .row tBool 4 A1331 l1330.length c1332 l1330]) (fun b1344 => assizeref10zcounts.j5 x893 l1330 x1333 b1344) ?_ (fun hJ1345 => ?_)
      · clear H hI
        rintro b1344 _ _ ⟨_, rfl, hI⟩ H
        replace H := cond_some H
        rcases H with ⟨hc1346, H⟩ | ⟨hc1346, H⟩
        · refine gt hc1346 (go_skip (go_seq ?_))
          refine go_block_join (o := o3) (fun l1358 f w => ∃ (j : Nat → Value) (A1359 : Option Addr) (c1360 : Nat), f = updL j [(2, vP b3 0), (3, vP b4 0), (5, vS A11 y9.length c12), (6, vS A1359 l1358.length c1360), (7, vI x893), (8, vI x1195), (10, vI x1333)] ∧ Inv M w [.blk b3 25 [vS A0z0 a0.Keys.length c0z0, vS A0z1 a0.Txns.length c0z1], .blk b4 37 [vI a1.Txn, vI a1.Place, vI a1.Key, vS A1z0 a1.Base.length c1z0], .row (tInt .i64) 3 A11 y9.length c12 y9, .row tBool 4 A1359 l1358.length c1360 l1358]) (fun l1358 => assizeref10zcounts.j6 x1333 l1358) ?_ (fun hJ1361 => ?_)
          · clear H hI
            rintro l1358 _ _ ⟨_, A1359, c1360, rfl, hI⟩ H
            refine rp 3 ?_
            exact hin3 _ (Option.some.inj H).symm _ _ ⟨_, A1359, c1360, at_, hI⟩
          · refine r_in ?_
            replace H := must_some H
            obtain ⟨g1362, H⟩ := H
            obtain ⟨b1363, rfl⟩ := hI.rowAt 3 rfl g1362
            replace H := cond_some H
            rcases H with ⟨hc1364, H⟩ | ⟨hc1364, H⟩
            · refine bx 0 [.p, .p, .p, .p, .x, .l 0 0, .c true, .p, .p, .p, .p, .p, .p, .x] (gA ((rdS.flook (hI.row 3 rfl) (hI.rowlen 3 rfl) g1362).ok)) _ (bC g1362 (bC (bndEq hc1364) (bZ g1362))) (oe 14 rfl ?_)
              refine e_put 4 _ _ 3 b1363 4 l1330.length c1332 l1330 true x1333 0 (vB true) rfl (by kernel_rfl) (by kernel_rfl) (by kernel_rfl) (by kernel_rfl) hI rfl g1362 (by kernel_rfl) (by kernel_rfl) ?_
              clear hI
              intro _ hI
              refine ro (go_inBlock ?_)
              refine go_is 6 (vS (some ⟨b1363, 0, none⟩) l1330.length c1332) (vS (some ⟨b1363, 0, none⟩) ((l1330.set x1333.toNat true).length) c1332) (by kernel_rfl) (by first | rfl | simp only [List.length_set, List.length_replicate, List.length_nil]) ?_
              replace hI := hI.renum 3 rfl
              exact hJ1361 (l1330.set x1333.toNat true) _ _ ⟨_, (some ⟨b1363, 0, none⟩), c1332, at_, hI⟩ H
            · replace H := must_some H
              obtain ⟨g1365, H⟩ := H
              refine bx 0 [.p, .p, .p, .p, .x, .l 0 0, .c false, .p, .p, .x, .p, .p, .p, .x] (gA ((rdS.flook (hI.row 3 rfl) (hI.rowlen 3 rfl) g1362).ok)) _ (bC g1362 (bC (bndEq hc1364) (bC g1365 (bZ g1362)))) (oe 14 rfl ?_)
              refine e_put 4 _ _ 3 b1363 4 l1330.length c1332 l1330 (bAnd .i64 (sShr .i64 x893 x1333) 1 == 1) x1333 0 (vB (bAnd .i64 (sShr .i64 x893 x1333) 1 == 1)) rfl (by kernel_rfl) (by kernel_rfl) (by kernel_rfl) (by kernel_rfl) hI rfl g1362 (by kernel_rfl) (by kernel_rfl) ?_
              clear hI
              intro _ hI
              refine ro (go_inBlock ?_)
              refine go_is 6 (vS (some ⟨b1363, 0, none⟩) l1330.length c1332) (vS (some ⟨b1363, 0, none⟩) ((l1330.set x1333.toNat (bAnd .i64 (sShr .i64 x893 x1333) 1 == 1)).length) c1332) (by kernel_rfl) (by first | rfl | simp only [List.length_set, List.length_replicate, List.length_nil]) ?_
              replace hI := hI.renum 3 rfl
              exact hJ1361 (l1330.set x1333.toNat (bAnd .i64 (sShr .i64 x893 x1333) 1 == 1)) _ _ ⟨_, (some ⟨b1363, 0, none⟩), c1332, at_, hI⟩ H
        · refine ge hc1346 ?_
          refine go_exit rfl ?_
          refine go_inBlock (rp 3 ?_)
          replace H := out_some H
          obtain ⟨_, H, he3⟩ := H
          have he := (hout3 _ he3).symm
          subst he
          replace H := out_some H
          obtain ⟨_, H, he2⟩ := H
          have he := (hout2 _ he2).symm
          subst he
          exact hin1 _ (Option.some.inj H).symm _ _ ⟨_, A1331, c1332, at_, hI⟩
      · refine r_in ?_
        replace H := cond_some H
        rcases H with ⟨hc1366, H⟩ | ⟨hc1366, H⟩
        · replace H := must_some H
          obtain ⟨g1367, H⟩ := H
          obtain ⟨b1368, q1369, rfl, _⟩ := rdS.fopen hr1z0 rfl g1367
          refine bx 0 [.p, .p, .p, .p, .c true, .p, .p, .l 0 3, .x, .l 1 0, .p, .p] (gB (hI.grp 1 rfl) (hI.lies (rdS.flook hr1z0 rfl g1367))) _ (bC (bndEq hc1366) (bZ g1367)) (ro ?_)
          exact hJ1345 (x1195 == idx a1.Base (0 : Int)) _ _ ⟨_, at_, hI⟩ H
        · refine bx 0 [.p, .p, .p, .p, .c false, .p, .p, .p, .p, .p, .p, .p] gO _ (bZ (bndEq hc1366)) (ro ?_)
          exact hJ1345 false _ _ ⟨_, at_, hI⟩ H
  · refine ge hc898 ?_
    refine go_exit rfl ?_
    refine go_seq (rp 1 (go_seq (go_seq (rp 1 (go_block ?_)))))
    refine go_iter (assizeref10zcounts.s7 y9 l890) (fun (l1550, x1553) f w => ∃ (j : Nat → Value) (A1551 : Option Addr) (c1552 : Nat), f = updL j [(5, vS A11 y9.length c12), (6, vS A891 l890.length c892), (11, vS A1551 l1550.length c1552), (12, vI x1553)] ∧ Inv M w [.row (tInt .i64) 3 A11 y9.length c12 y9, .row tBool 4 A891 l890.length c892 l890, .row (tInt .i64) 3 A1551 l1550.length c1552 l1550]) H ⟨_, none, 0, at_, (hI.nilrow (tInt .i64) 3).pick [2, 3, 4] (by decide) rfl⟩ ?_
    clear H hI
    rintro ⟨l1550, x1553⟩ _ _ o2 H ⟨_, A1551, c1552, rfl, hI⟩ hin2 hout2
    refine go_seq (go_seq (rp 4 ?_))
    replace H := cond_some H
    rcases H with ⟨hc1555, H⟩ | ⟨hc1555, H⟩
    · refine gt hc1555 (go_skip (go_seq ?_))
      refine go_block_join (o := o2) (fun l1579 f w => ∃ (j : Nat → Value) (A1580 : Option Addr) (c1581 : Nat), f = updL j [(5, vS A11 y9.length c12), (6, vS A891 l890.length c892), (11, vS A1580 l1579.length c1581), (12, vI x1553)] ∧ Inv M w [.row (tInt .i64) 3 A11 y9.length c12 y9, .row tBool 4 A891 l890.length c892 l890, .row (tInt .i64) 3 A1580 l1579.length c1581 l1579]) (fun l1579 => assizeref10zcounts.j8 x1553 l1579) ?_ (fun hJ1582 => ?_)
      · clear H hI
        rintro l1579 _ _ ⟨_, A1580, c1581, rfl, hI⟩ H
        refine rp 3 ?_
        exact hin2 _ (Option.some.inj H).symm _ _ ⟨_, A1580, c1581, at_, hI⟩
      · refine go_seq (r_in ?_)
        replace H := must_some H
        obtain ⟨g1585, H⟩ := H
        obtain ⟨b1586, rfl⟩ := hI.rowAt 1 rfl g1585
        refine bx 0 [.p, .p, .x, .l 0 0] (gA ((rdS.flook (hI.row 1 rfl) (hI.rowlen 1 rfl) g1585).ok)) _ (bZ g1585) (ro ?_)
        replace H := cond_some H
        rcases H with ⟨hc1587, H⟩ | ⟨hc1587, H⟩
        · refine gt hc1587 (r_in ?_)
          replace H := must_some H
          obtain ⟨g1588, H⟩ := H
          obtain ⟨b1589, rfl⟩ := hI.rowAt 0 rfl g1588
          refine bx 0 [.p, .p, .p, .x, .l 0 0] (gA ((rdS.flook (hI.row 0 rfl) (hI.rowlen 0 rfl) g1588).ok)) _ (bZ g1588) (oe 5 rfl ?_)
          refine e_partsS 32 3 1 _ _ _ #[vI (idx y9 x1553)] [vI (idx y9 x1553)] rfl rfl rfl rfl (by kernel_rfl) (by kernel_rfl) (by kernel_rfl) (by kernel_rfl) hI ?_
          clear hI
          intro b1590 _ hs1591 hI
          replace H := must_some H
          obtain ⟨g1592, H⟩ := H
          refine oe 6 rfl ?_
          refine e_append (tInt .i64) 32 0 3 _ _ _ _ A1551 l1550.length c1552 l1550 ([idx y9 x1553] : List Int) b1590 0 1 1 [vI (idx y9 x1553)] 2 [] [0, 1, 3] [] [.row (tInt .i64) 3 (some ⟨b1589, 0, none⟩) y9.length c12 y9, .row tBool 4 (some ⟨b1586, 0, none⟩) l890.length c892 l890, .blk b1590 3 [vI (idx y9 x1553)]] rfl (by kernel_rfl) (by kernel_rfl) rfl rfl rfl rfl rfl (by kernel_rfl) hI (by decide) rfl rfl rfl (hI.grp 3 rfl) g1592 (mks_cons (mk_flat (k := (tInt .i64)) (idx y9 x1553) [vI (idx y9 x1553)] rfl) mks_nil) ?_
          clear hI
          intro A1593 c1594 _ hI
          replace hI := hI.pick (L' := [.row (tInt .i64) 3 A1593 ((l1550 ++ ([idx y9 x1553] : List Int)).length) c1594 (l1550 ++ ([idx y9 x1553] : List Int)), .row (tInt .i64) 3 (some ⟨b1589, 0, none⟩) y9.length c12 y9, .row tBool 4 (some ⟨b1586, 0, none⟩) l890.length c892 l890]) [0, 1, 2] (by decide) rfl
          refine bp 7 1 (ro (go_inBlock ?_))
          exact hJ1582 (l1550 ++ ([idx y9 x1553] : List Int)) _ _ ⟨_, A1593, c1594, at_, hI.pick [1, 2, 0] (by decide) rfl⟩ H
        · refine ge hc1587 (go_skip (go_inBlock ?_))
          exact hJ1582 l1550 _ _ ⟨_, A1551, c1552, at_, hI⟩ H
    · refine ge hc1555 ?_
      refine go_exit rfl ?_
      refine go_seq (rp 2 ?_)
      replace H := out_some H
      obtain ⟨_, H, he2⟩ := H
      have he := (hout2 _ he2).symm
      subst he
      replace H := out_some H
      obtain ⟨_, H, he1⟩ := H
      have he := (hout1 _ he1).symm
      subst he
      replace H := Option.some.inj H
      subst H
      exact gr Try.func70 ⟨A1551, c1552, rfl, hI.pick [2] (by decide) rfl⟩
theorem enter24 (a : Array Value) : Sem.pureRun Try.prog (callFunc 24 a) = some (.enter 24 a) := by kernel_rfl
theorem assizeref03zSameVals_calls (A0z : Option Addr) (c0z : Nat) (a0 : List Int) (A1z : Option Addr) (c1z : Nat) (a1 : List Int) (M : Mem) (w : World) (hI : Inv M w []) (hr0z : rdS (tInt .i64) M.blk A0z a0) (hl0z : a0.length ≤ c0z) (hr1z : rdS (tInt .i64) M.blk A1z a1) (hl1z : a1.length ≤ c1z) (r : Bool) (H : assizeref03zSameVals a0 a1 = some r) :
    Calls Try.prog 24 #[vS A0z a0.length c0z, vS A1z a1.length c1z] w fun e w' => e = .returned (vB r) ∧ Inv M w' [] := by
  refine cg Try.func24 ?_
  intro cs
  unfold assizeref03zSameVals at H
  refine go_seq (rp 1 (go_seq (go_seq (rp 5 ?_))))
  replace H := cond_some H
  rcases H with ⟨hc2, H⟩ | ⟨hc2, H⟩
  · refine gt hc2 (go_seq (rp 1 ?_))
    replace H := Option.some.inj H
    subst H
    exact gr Try.func24 ⟨rfl, hI⟩
  · refine ge hc2 (go_skip (go_seq (go_seq (rp 1 (go_block ?_)))))
    refine go_iter (assizeref03zSameVals.s1 a0 a1) (fun x84 f w => ∃ (j : Nat → Value), f = updL j [(0, vS A0z a0.length c0z), (1, vS A1z a1.length c1z), (5, vI x84)] ∧ Inv M w []) H ⟨_, at_, hI⟩ ?_
    clear H hI
    rintro x84 _ _ o1 H ⟨_, rfl, hI⟩ hin1 hout1
    refine go_seq (go_seq (rp 4 ?_))
    replace H := cond_some H
    rcases H with ⟨hc86, H⟩ | ⟨hc86, H⟩
    · refine gt hc86 (go_skip (go_seq (go_block (go_seq ?_))))
      replace H := must_some H
      obtain ⟨g107, H⟩ := H
      obtain ⟨b108, q109, rfl, _⟩ := rdS.fopen hr0z rfl g107
      replace H := must_some H
      obtain ⟨g110, H⟩ := H
      obtain ⟨b111, q112, rfl, _⟩ := rdS.fopen hr1z rfl g110
      refine dx [.p, .p, .x, .l 0 0, .p, .p, .x, .l 1 0, .p] (gB (hI.lies (rdS.flook hr0z rfl g107)) (hI.lies (rdS.flook hr1z rfl g110))) _ (bC g107 (bZ g110)) hI ?_
      clear hI
      intro _ hI
      replace H := cond_some H
      rcases H with ⟨hc113, H⟩ | ⟨hc113, H⟩
      · refine gt hc113 (go_seq (rp 1 ?_))
        replace H := out_some H
        obtain ⟨_, H, he1⟩ := H
        have he := (hout1 _ he1).symm
        subst he
        replace H := Option.some.inj H
        subst H
        exact gr Try.func24 ⟨rfl, hI⟩
      · refine ge hc113 (go_skip (go_inBlock (rp 3 ?_)))
        exact hin1 _ (Option.some.inj H).symm _ _ ⟨_, at_, hI⟩
    · refine ge hc86 ?_
      refine go_exit rfl ?_
      refine go_seq (rp 1 ?_)
      replace H := out_some H
      obtain ⟨_, H, he1⟩ := H
      have he := (hout1 _ he1).symm
      subst he
      replace H := Option.some.inj H
      subst H
      exact gr Try.func24 ⟨rfl, hI⟩
theorem enter95 (a : Array Value) : Sem.pureRun Try.prog (callFunc 95 a) = some (.enter 95 a) := by kernel_rfl
theorem assizeref10zbegins_calls (A0z : Option Addr) (c0z : Nat) (a0 : List Int) (A1z : Option Addr) (c1z : Nat) (a1 : List Int) (M : Mem) (w : World) (hI : Inv M w []) (hr0z : rdS (tInt .i64) M.blk A0z a0) (hl0z : a0.length ≤ c0z) (hr1z : rdS (tInt .i64) M.blk A1z a1) (hl1z : a1.length ≤ c1z) (r : Bool) (H : assizeref10zbegins a0 a1 = some r) :
    Calls Try.prog 95 #[vS A0z a0.length c0z, vS A1z a1.length c1z] w fun e w' => e = .returned (vB r) ∧ Inv M w' [] := by
  refine cg Try.func95 ?_
  intro cs
  unfold assizeref10zbegins at H
  refine go_seq (rp 1 (go_seq (go_seq (rp 5 ?_))))
  replace H := cond_some H
  rcases H with ⟨hc2, H⟩ | ⟨hc2, H⟩
  · refine gt hc2 (go_seq (rp 1 ?_))
    replace H := Option.some.inj H
    subst H
    exact gr Try.func95 ⟨rfl, hI⟩
  · refine ge hc2 (go_skip (go_seq (r_in (bp 0 3 ?_))))
    replace H := must_some H
    obtain ⟨g10, H⟩ := H
    refine oe 3 rfl ?_
    refine e_slice_ro (tInt .i64) _ 35 2 _ _ _ _ A0z c0z a0 .i64 .i64 (0 : Int) (a1.length : Int) rfl (by kernel_rfl) (by kernel_rfl) (by kernel_rfl) rfl rfl rfl hr0z hl0z g10 ?_
    intro A11 c12 hr13 hl14
    refine bp 4 1 ?_
    replace H := bind_some H
    obtain ⟨y15, hy16, H⟩ := H
    refine oe 5 rfl ?_
    refine ec (enter24 _) (assizeref03zSameVals_calls A11 c12 (subl a0 (0 : Int) (a1.length : Int)) A1z c1z a1 (memOf _) _ (Inv.start _) (hI.rd hr13) hl14 (hI.rd hr1z) hl1z _ hy16) ?_
    rintro _ _ ⟨rfl, hI'⟩
    replace hI := hI.call0 hI'
    clear hI'
    refine ⟨_, rfl, ?_⟩
    refine bp 6 1 (ro ?_)
    replace H := Option.some.inj H
    subst H
    exact gr Try.func95 ⟨rfl, hI⟩
theorem enter73 (a : Array Value) : Sem.pureRun Try.prog (callFunc 73 a) = some (.enter 73 a) := by kernel_rfl
theorem assizeref10zlist_calls (a0 : History) (A0z0 : Option Addr) (c0z0 : Nat) (A0z1 : Option Addr) (c0z1 : Nat) (a1 : Ask) (A1z0 : Option Addr) (c1z0 : Nat) (M : Mem) (w : World) (hI : Inv M w []) (hr0z0 : rdS tStr M.blk A0z0 a0.Keys) (hl0z0 : a0.Keys.length ≤ c0z0) (hr0z1 : rdS kTxn M.blk A0z1 a0.Txns) (hl0z1 : a0.Txns.length ≤ c0z1) (hr1z0 : rdS (tInt .i64) M.blk A1z0 a1.Base) (hl1z0 : a1.Base.length ≤ c1z0) (r : List Int × Bool) (H : assizeref10zlist a0 a1 = some r) :
    Calls Try.prog 73 #[.agg #[vS A0z0 a0.Keys.length c0z0, vS A0z1 a0.Txns.length c0z1], .agg #[vI a1.Txn, vI a1.Place, vI a1.Key, vS A1z0 a1.Base.length c1z0]] w fun e w' => ∃ (A1070 : Option Addr), ∃ (c1071 : Nat), e = .returned (.tuple #[vS A1070 r.1.length c1071, vB r.2]) ∧ Inv M w' [.row (tInt .i64) 3 A1070 r.1.length c1071 r.1] := by
  refine cg Try.func73 ?_
  intro cs
  unfold assizeref10zlist at H
  refine go_seq (r_in (oe 0 rfl ?_))
  refine e_box 25 _ (.agg #[vS A0z0 a0.Keys.length c0z0, vS A0z1 a0.Txns.length c0z1]) [vS A0z0 a0.Keys.length c0z0, vS A0z1 a0.Txns.length c0z1] rfl (by kernel_rfl) rfl hI ?_
  clear hI
  intro b3 _ hI
  refine oe 1 rfl ?_
  refine e_box 37 _ (.agg #[vI a1.Txn, vI a1.Place, vI a1.Key, vS A1z0 a1.Base.length c1z0]) [vI a1.Txn, vI a1.Place, vI a1.Key, vS A1z0 a1.Base.length c1z0] rfl (by kernel_rfl) rfl hI ?_
  clear hI
  intro b4 _ hI
  refine bp 2 2 (ro (go_seq (rp 1 (go_seq (rg [.p, .l 0 3, .p] (gA (hI.grp 1 rfl)) (go_seq (r_in (bg 0 [.l 0 0, .l 1 0] (gB (hI.grp 0 rfl) (hI.grp 1 rfl)) ?_))))))))
  replace H := bind_some H
  obtain ⟨y9, hy10, H⟩ := H
  refine oe 2 rfl ?_
  refine ec (enter71 _) (assizeref10zothers_calls a0 A0z0 c0z0 A0z1 c0z1 a1 A1z0 c1z0 (memOf _) _ (Inv.start _) (hI.rd hr0z0) hl0z0 (hI.rd hr0z1) hl0z1 (hI.rd hr1z0) hl1z0 _ hy10) ?_
  rintro _ _ ⟨A11, c12, rfl, hI'⟩
  replace hI := hI.call0 hI'
  clear hI'
  refine ⟨_, rfl, ?_⟩
  refine bp 3 1 (ro (go_seq (go_block ?_)))
  refine go_iter (assizeref10zlist.s1 a0 a1 y9) (fun (l733, l736) f w => ∃ (j : Nat → Value) (A734 : Option Addr) (c735 : Nat) (A737 : Option Addr) (c738 : Nat), f = updL j [(2, vP b3 0), (3, vP b4 0), (6, vS A734 l733.length c735), (7, vS A737 l736.length c738), (8, vS A11 y9.length c12)] ∧ rdS (tInt .i64) M.blk A737 l736 ∧ l736.length ≤ c738 ∧ Inv M w [.blk b3 25 [vS A0z0 a0.Keys.length c0z0, vS A0z1 a0.Txns.length c0z1], .blk b4 37 [vI a1.Txn, vI a1.Place, vI a1.Key, vS A1z0 a1.Base.length c1z0], .row (tInt .i64) 3 A734 l733.length c735 l733, .row (tInt .i64) 3 A11 y9.length c12 y9]) H ⟨_, none, 0, A1z0, c1z0, at_, hr1z0, hl1z0, (hI.nilrow (tInt .i64) 3).pick [0, 1, 3, 2] (by decide) rfl⟩ ?_
  clear H hI
  rintro ⟨l733, l736⟩ _ _ o1 H ⟨_, A734, c735, A737, c738, rfl, hr739, hl740, hI⟩ hin1 hout1
  refine go_seq (go_seq (rp 3 ?_))
  replace H := cond_some H
  rcases H with ⟨hc742, H⟩ | ⟨hc742, H⟩
  · refine gt hc742 (go_skip (go_block (go_seq (rp 1 (go_seq (go_seq (rp 1 (go_block ?_))))))))
    refine go_iter (assizeref10zlist.s2 a0 a1 y9 l733 l736) (fun (x943, x944) f w => ∃ (j : Nat → Value), f = updL j [(2, vP b3 0), (3, vP b4 0), (6, vS A734 l733.length c735), (7, vS A737 l736.length c738), (8, vS A11 y9.length c12), (9, vI x943), (10, vI x944)] ∧ Inv M w [.blk b3 25 [vS A0z0 a0.Keys.length c0z0, vS A0z1 a0.Txns.length c0z1], .blk b4 37 [vI a1.Txn, vI a1.Place, vI a1.Key, vS A1z0 a1.Base.length c1z0], .row (tInt .i64) 3 A734 l733.length c735 l733, .row (tInt .i64) 3 A11 y9.length c12 y9]) H ⟨_, at_, hI⟩ ?_
    clear H hI
    rintro ⟨x943, x944⟩ _ _ o2 H ⟨_, rfl, hI⟩ hin2 hout2
    refine go_seq (go_seq (rp 4 ?_))
    replace H := cond_some H
    rcases H with ⟨hc946, H⟩ | ⟨hc946, H⟩
    · refine gt hc946 (go_skip (go_seq ?_))
      refine go_block_join (o := o2) (fun x966 f w => ∃ (j : Nat → Value), f = updL j [(2, vP b3 0), (3, vP b4 0), (6, vS A734 l733.length c735), (7, vS A737 l736.length c738), (8, vS A11 y9.length c12), (9, vI x966), (10, vI x944)] ∧ Inv M w [.blk b3 25 [vS A0z0 a0.Keys.length c0z0, vS A0z1 a0.Txns.length c0z1], .blk b4 37 [vI a1.Txn, vI a1.Place, vI a1.Key, vS A1z0 a1.Base.length c1z0], .row (tInt .i64) 3 A734 l733.length c735 l733, .row (tInt .i64) 3 A11 y9.length c12 y9]) (fun x966 => assizeref10zlist.j3 x944 x966) ?_ (fun hJ967 => ?_)
      · clear H hI
        rintro x966 _ _ ⟨_, rfl, hI⟩ H
        refine rp 3 ?_
        exact hin2 _ (Option.some.inj H).symm _ _ ⟨_, at_, hI⟩
      · refine go_seq ?_
        replace H := must_some H
        obtain ⟨g974, H⟩ := H
        obtain ⟨b975, rfl⟩ := hI.rowAt 3 rfl g974
        replace H := bind_some H
        obtain ⟨y976, hy977, H⟩ := H
        refine go_held (fun w => Inv M w [.blk b3 25 [vS A0z0 a0.Keys.length c0z0, vS A0z1 a0.Txns.length c0z1], .blk b4 37 [vI a1.Txn, vI a1.Place, vI a1.Key, vS A1z0 a1.Base.length c1z0], .row (tInt .i64) 3 A734 l733.length c735 l733, .row (tInt .i64) 3 (some ⟨b975, 0, none⟩) y9.length c12 y9]) (by kernel_rfl) ?_
        replace hI := hI.drew'
        refine hx (n := 2) [(0, .l 0 0), (1, .p), (2, .p), (3, .x), (4, .l 1 0), (5, .p), (6, .l 2 2)] (fun _ hS => (gC (hS.grp 0 rfl) ((rdS.flook (hS.row 3 rfl) (hS.rowlen 3 rfl) g974).ok) (hS.grp 1 rfl))) hI _ (bZ g974) ?_
        refine ho (n := 1) 7 rfl (ec (enter72 _) (assizeref05zWrote_calls a0 A0z0 c0z0 A0z1 c0z1 (idx y9 x944) a1.Key (memOf _) _ (Inv.start _) (hI.rd hr0z0) hl0z0 (hI.rd hr0z1) hl0z1 _ hy977) ?_)
        rintro _ _ ⟨A978, c979, rfl, hI'⟩
        replace hI := hI.call0 hI'
        clear hI'
        refine ⟨_, rfl, ?_⟩
        refine ⟨(hI.pk [0, 1, 2, 3]), ?_⟩
        refine hg (n := 0) [(8, .p)] (fun _ hS => gO) (hI.pk [0, 1, 2, 3]) (hd (go_seq (r_in (bp 0 2 ?_))))
        replace H := bind_some H
        obtain ⟨y982, hy983, H⟩ := H
        refine oe 2 rfl ?_
        refine ec (enter95 _) (assizeref10zbegins_calls A737 c738 l736 A978 c979 y976 (memOf _) _ (Inv.start _) (hI.rd hr739) hl740 (hI.row 4 rfl) (hI.rowle 4 rfl) _ hy983) ?_
        rintro _ _ ⟨rfl, hI'⟩
        replace hI := hI.call0 hI'
        clear hI'
        refine ⟨_, rfl, ?_⟩
        refine ro ?_
        replace H := cond_some H
        rcases H with ⟨hc984, H⟩ | ⟨hc984, H⟩
        · refine gt hc984 (r_in (bx 0 [.p, .p, .x, .l 0 0, .p] (gA ((rdS.flook (hI.row 3 rfl) (hI.rowlen 3 rfl) g974).ok)) _ (bZ g974) (ro (go_inBlock ?_))))
          exact hJ967 (idx y9 x944) _ _ ⟨_, at_, hI.pick [0, 1, 2, 3] (by decide) rfl⟩ H
        · refine ge hc984 (go_skip (go_inBlock ?_))
          exact hJ967 x943 _ _ ⟨_, at_, hI.pick [0, 1, 2, 3] (by decide) rfl⟩ H
    · refine ge hc946 ?_
      refine go_exit rfl ?_
      refine go_seq (go_seq (rp 2 ?_))
      replace H := cond_some H
      rcases H with ⟨hc986, H⟩ | ⟨hc986, H⟩
      · refine gt hc986 (go_seq (rp 2 ?_))
        replace H := out_some H
        obtain ⟨_, H, he2⟩ := H
        have he := (hout2 _ he2).symm
        subst he
        replace H := out_some H
        obtain ⟨_, H, he1⟩ := H
        have he := (hout1 _ he1).symm
        subst he
        replace H := Option.some.inj H
        subst H
        exact gr Try.func73 ⟨none, 0, rfl, (hI.nilrow (tInt .i64) 3).pick [4] (by decide) rfl⟩
      · refine ge hc986 (go_skip (go_seq (go_seq (rp 1 (go_block ?_)))))
        refine go_iter (assizeref10zlist.s4 a0 a1 l733 l736 x943) (fun x1036 f w => ∃ (j : Nat → Value), f = updL j [(2, vP b3 0), (3, vP b4 0), (6, vS A734 l733.length c735), (7, vS A737 l736.length c738), (8, vS A11 y9.length c12), (9, vI x943), (12, vI x1036)] ∧ Inv M w [.blk b3 25 [vS A0z0 a0.Keys.length c0z0, vS A0z1 a0.Txns.length c0z1], .blk b4 37 [vI a1.Txn, vI a1.Place, vI a1.Key, vS A1z0 a1.Base.length c1z0], .row (tInt .i64) 3 A734 l733.length c735 l733, .row (tInt .i64) 3 A11 y9.length c12 y9]) H ⟨_, at_, hI⟩ ?_
        clear H hI
        rintro x1036 _ _ o3 H ⟨_, rfl, hI⟩ hin3 hout3
        refine go_seq (go_seq (rp 4 ?_))
        replace H := cond_some H
        rcases H with ⟨hc1038, H⟩ | ⟨hc1038, H⟩
        · refine gt hc1038 (go_skip (go_seq (go_block (go_seq (r_in ?_)))))
          replace H := must_some H
          obtain ⟨g1047, H⟩ := H
          obtain ⟨b1048, rfl⟩ := hI.rowAt 2 rfl g1047
          refine bx 0 [.p, .p, .x, .l 0 0, .p, .p] (gA ((rdS.flook (hI.row 2 rfl) (hI.rowlen 2 rfl) g1047).ok)) _ (bZ g1047) (ro ?_)
          replace H := cond_some H
          rcases H with ⟨hc1049, H⟩ | ⟨hc1049, H⟩
          · refine gt hc1049 (go_seq (rp 2 ?_))
            replace H := out_some H
            obtain ⟨_, H, he3⟩ := H
            have he := (hout3 _ he3).symm
            subst he
            replace H := out_some H
            obtain ⟨_, H, he2⟩ := H
            have he := (hout2 _ he2).symm
            subst he
            replace H := out_some H
            obtain ⟨_, H, he1⟩ := H
            have he := (hout1 _ he1).symm
            subst he
            replace H := Option.some.inj H
            subst H
            exact gr Try.func73 ⟨none, 0, rfl, (hI.nilrow (tInt .i64) 3).pick [4] (by decide) rfl⟩
          · refine ge hc1049 (go_skip (go_inBlock (rp 3 ?_)))
            exact hin3 _ (Option.some.inj H).symm _ _ ⟨_, at_, hI⟩
        · refine ge hc1038 ?_
          refine go_exit rfl ?_
          refine go_seq (r_in (bp 0 2 (oe 2 rfl ?_)))
          refine e_partsS 32 3 1 _ _ _ #[vI x943] [vI x943] rfl rfl rfl rfl (by kernel_rfl) (by kernel_rfl) (by kernel_rfl) (by kernel_rfl) hI ?_
          clear hI
          intro b1055 _ hs1056 hI
          replace H := must_some H
          obtain ⟨g1057, H⟩ := H
          refine oe 3 rfl ?_
          refine e_append (tInt .i64) 32 0 3 _ _ _ _ A734 l733.length c735 l733 ([x943] : List Int) b1055 0 1 1 [vI x943] 2 [] [0, 1, 3, 4] [] [.blk b3 25 [vS A0z0 a0.Keys.length c0z0, vS A0z1 a0.Txns.length c0z1], .blk b4 37 [vI a1.Txn, vI a1.Place, vI a1.Key, vS A1z0 a1.Base.length c1z0], .row (tInt .i64) 3 A11 y9.length c12 y9, .blk b1055 3 [vI x943]] rfl (by kernel_rfl) (by kernel_rfl) rfl rfl rfl rfl rfl (by kernel_rfl) hI (by decide) rfl rfl rfl (hI.grp 4 rfl) g1057 (mks_cons (mk_flat (k := (tInt .i64)) x943 [vI x943] rfl) mks_nil) ?_
          clear hI
          intro A1058 c1059 _ hI
          replace hI := hI.pick (L' := [.row (tInt .i64) 3 A1058 ((l733 ++ ([x943] : List Int)).length) c1059 (l733 ++ ([x943] : List Int)), .blk b3 25 [vS A0z0 a0.Keys.length c0z0, vS A0z1 a0.Txns.length c0z1], .blk b4 37 [vI a1.Txn, vI a1.Place, vI a1.Key, vS A1z0 a1.Base.length c1z0], .row (tInt .i64) 3 A11 y9.length c12 y9]) [0, 1, 2, 3] (by decide) rfl
          refine bp 4 1 (ro (r_in (bg 0 [.p, .l 0 0, .p, .p, .l 1 2] (gB (hI.grp 1 rfl) (hI.grp 2 rfl)) ?_)))
          replace H := bind_some H
          obtain ⟨y1060, hy1061, H⟩ := H
          refine oe 5 rfl ?_
          refine ec (enter72 _) (assizeref05zWrote_calls a0 A0z0 c0z0 A0z1 c0z1 x943 a1.Key (memOf _) _ (Inv.start _) (hI.rd hr0z0) hl0z0 (hI.rd hr0z1) hl0z1 _ hy1061) ?_
          rintro _ _ ⟨A1062, c1063, rfl, hI'⟩
          replace hI := hI.call0 hI'
          clear hI'
          refine ⟨_, rfl, ?_⟩
          refine bp 6 1 ?_
          replace H := must_some H
          obtain ⟨g1064, H⟩ := H
          refine oe 7 rfl ?_
          refine e_slice_ro (tInt .i64) _ 35 2 _ _ _ _ A737 c738 l736 .i64 .i64 (y1060.length : Int) (l736.length : Int) rfl (by kernel_rfl) (by kernel_rfl) (by kernel_rfl) rfl rfl rfl hr739 hl740 g1064 ?_
          intro A1065 c1066 hr1067 hl1068
          refine bp 8 1 (ro (go_inBlock ?_))
          replace H := out_some H
          obtain ⟨_, H, he3⟩ := H
          have he := (hout3 _ he3).symm
          subst he
          replace H := out_some H
          obtain ⟨_, H, he2⟩ := H
          have he := (hout2 _ he2).symm
          subst he
          exact hin1 _ (Option.some.inj H).symm _ _ ⟨_, A1058, c1059, A1065, c1066, at_, hr1067, hl1068, hI.pick [1, 2, 0, 3] (by decide) rfl⟩
  · refine ge hc742 ?_
    refine go_exit rfl ?_
    refine go_seq (rp 3 ?_)
    replace H := out_some H
    obtain ⟨_, H, he1⟩ := H
    have he := (hout1 _ he1).symm
    subst he
    replace H := Option.some.inj H
    subst H
    exact gr Try.func73 ⟨A734, c735, rfl, hI.pick [2] (by decide) rfl⟩
theorem enter96 (a : Array Value) : Sem.pureRun Try.prog (callFunc 96 a) = some (.enter 96 a) := by kernel_rfl
theorem assizeref10zholds_calls (A0z : Option Addr) (c0z : Nat) (a0 : List Int) (a1 : Int) (M : Mem) (w : World) (hI : Inv M w []) (hr0z : rdS (tInt .i64) M.blk A0z a0) (hl0z : a0.length ≤ c0z) (r : Bool) (H : assizeref10zholds a0 a1 = some r) :
    Calls Try.prog 96 #[vS A0z a0.length c0z, vI a1] w fun e w' => e = .returned (vB r) ∧ Inv M w' [] := by
  refine cg Try.func96 ?_
  intro cs
  unfold assizeref10zholds at H
  refine go_seq (rp 1 (go_seq (go_seq (rp 1 (go_block ?_)))))
  refine go_iter (assizeref10zholds.s1 a0 a1) (fun x58 f w => ∃ (j : Nat → Value), f = updL j [(0, vS A0z a0.length c0z), (1, vI a1), (5, vI x58)] ∧ Inv M w []) H ⟨_, at_, hI⟩ ?_
  clear H hI
  rintro x58 _ _ o1 H ⟨_, rfl, hI⟩ hin1 hout1
  refine go_seq (go_seq (rp 4 ?_))
  replace H := cond_some H
  rcases H with ⟨hc60, H⟩ | ⟨hc60, H⟩
  · refine gt hc60 (go_skip (go_seq (go_block (go_seq (r_in ?_)))))
    replace H := must_some H
    obtain ⟨g72, H⟩ := H
    obtain ⟨b73, q74, rfl, _⟩ := rdS.fopen hr0z rfl g72
    refine bx 0 [.p, .p, .x, .l 0 0, .p, .p] (gA (hI.lies (rdS.flook hr0z rfl g72))) _ (bZ g72) (ro ?_)
    replace H := cond_some H
    rcases H with ⟨hc75, H⟩ | ⟨hc75, H⟩
    · refine gt hc75 (go_seq (rp 1 ?_))
      replace H := out_some H
      obtain ⟨_, H, he1⟩ := H
      have he := (hout1 _ he1).symm
      subst he
      replace H := Option.some.inj H
      subst H
      exact gr Try.func96 ⟨rfl, hI⟩
    · refine ge hc75 (go_skip (go_inBlock (rp 3 ?_)))
      exact hin1 _ (Option.some.inj H).symm _ _ ⟨_, at_, hI⟩
  · refine ge hc60 ?_
    refine go_exit rfl ?_
    refine go_seq (rp 1 ?_)
    replace H := out_some H
    obtain ⟨_, H, he1⟩ := H
    have he := (hout1 _ he1).symm
    subst he
    replace H := Option.some.inj H
    subst H
    exact gr Try.func96 ⟨rfl, hI⟩
theorem enter74 (a : Array Value) : Sem.pureRun Try.prog (callFunc 74 a) = some (.enter 74 a) := by kernel_rfl
theorem assizeref10zset_calls (a0 : History) (A0z0 : Option Addr) (c0z0 : Nat) (A0z1 : Option Addr) (c0z1 : Nat) (a1 : Ask) (A1z0 : Option Addr) (c1z0 : Nat) (M : Mem) (w : World) (hI : Inv M w []) (hr0z0 : rdS tStr M.blk A0z0 a0.Keys) (hl0z0 : a0.Keys.length ≤ c0z0) (hr0z1 : rdS kTxn M.blk A0z1 a0.Txns) (hl0z1 : a0.Txns.length ≤ c0z1) (hr1z0 : rdS (tInt .i64) M.blk A1z0 a1.Base) (hl1z0 : a1.Base.length ≤ c1z0) (r : List Int × Bool) (H : assizeref10zset a0 a1 = some r) :
    Calls Try.prog 74 #[.agg #[vS A0z0 a0.Keys.length c0z0, vS A0z1 a0.Txns.length c0z1], .agg #[vI a1.Txn, vI a1.Place, vI a1.Key, vS A1z0 a1.Base.length c1z0]] w fun e w' => ∃ (A784 : Option Addr), ∃ (c785 : Nat), e = .returned (.tuple #[vS A784 r.1.length c785, vB r.2]) ∧ Inv M w' [.row (tInt .i64) 3 A784 r.1.length c785 r.1] := by
  refine cg Try.func74 ?_
  intro cs
  unfold assizeref10zset at H
  refine go_seq (r_in (oe 0 rfl ?_))
  refine e_box 25 _ (.agg #[vS A0z0 a0.Keys.length c0z0, vS A0z1 a0.Txns.length c0z1]) [vS A0z0 a0.Keys.length c0z0, vS A0z1 a0.Txns.length c0z1] rfl (by kernel_rfl) rfl hI ?_
  clear hI
  intro b3 _ hI
  refine oe 1 rfl ?_
  refine e_box 37 _ (.agg #[vI a1.Txn, vI a1.Place, vI a1.Key, vS A1z0 a1.Base.length c1z0]) [vI a1.Txn, vI a1.Place, vI a1.Key, vS A1z0 a1.Base.length c1z0] rfl (by kernel_rfl) rfl hI ?_
  clear hI
  intro b4 _ hI
  refine bp 2 2 (ro (go_seq (rp 1 (go_seq (rp 1 (go_seq (r_in (bg 0 [.l 0 0, .l 1 0] (gB (hI.grp 0 rfl) (hI.grp 1 rfl)) ?_))))))))
  replace H := bind_some H
  obtain ⟨y9, hy10, H⟩ := H
  refine oe 2 rfl ?_
  refine ec (enter71 _) (assizeref10zothers_calls a0 A0z0 c0z0 A0z1 c0z1 a1 A1z0 c1z0 (memOf _) _ (Inv.start _) (hI.rd hr0z0) hl0z0 (hI.rd hr0z1) hl0z1 (hI.rd hr1z0) hl1z0 _ hy10) ?_
  rintro _ _ ⟨A11, c12, rfl, hI'⟩
  replace hI := hI.call0 hI'
  clear hI'
  refine ⟨_, rfl, ?_⟩
  refine bp 3 1 (ro (go_seq (go_seq (rp 1 (go_block ?_)))))
  refine go_iter (assizeref10zset.s1 a0 a1 y9) (fun (l522, x525, x526) f w => ∃ (j : Nat → Value) (A523 : Option Addr) (c524 : Nat), f = updL j [(2, vP b3 0), (3, vP b4 0), (6, vS A523 l522.length c524), (7, vI x525), (8, vS A11 y9.length c12), (9, vI x526)] ∧ Inv M w [.blk b3 25 [vS A0z0 a0.Keys.length c0z0, vS A0z1 a0.Txns.length c0z1], .blk b4 37 [vI a1.Txn, vI a1.Place, vI a1.Key, vS A1z0 a1.Base.length c1z0], .row (tInt .i64) 3 A523 l522.length c524 l522, .row (tInt .i64) 3 A11 y9.length c12 y9]) H ⟨_, none, 0, at_, (hI.nilrow (tInt .i64) 3).pick [0, 1, 3, 2] (by decide) rfl⟩ ?_
  clear H hI
  rintro ⟨l522, x525, x526⟩ _ _ o1 H ⟨_, A523, c524, rfl, hI⟩ hin1 hout1
  refine go_seq (go_seq (rp 4 ?_))
  replace H := cond_some H
  rcases H with ⟨hc528, H⟩ | ⟨hc528, H⟩
  · refine gt hc528 (go_skip (go_seq ?_))
    refine go_block_join (o := o1) (fun (l629, x632) f w => ∃ (j : Nat → Value) (A630 : Option Addr) (c631 : Nat), f = updL j [(2, vP b3 0), (3, vP b4 0), (6, vS A630 l629.length c631), (7, vI x632), (8, vS A11 y9.length c12), (9, vI x526)] ∧ Inv M w [.blk b3 25 [vS A0z0 a0.Keys.length c0z0, vS A0z1 a0.Txns.length c0z1], .blk b4 37 [vI a1.Txn, vI a1.Place, vI a1.Key, vS A1z0 a1.Base.length c1z0], .row (tInt .i64) 3 A630 l629.length c631 l629, .row (tInt .i64) 3 A11 y9.length c12 y9]) (fun (l629, x632) => assizeref10zset.j2 x526 l629 x632) ?_ (fun hJ633 => ?_)
    · clear H hI
      rintro ⟨l629, x632⟩ _ _ ⟨_, A630, c631, rfl, hI⟩ H
      refine rp 3 ?_
      exact hin1 _ (Option.some.inj H).symm _ _ ⟨_, A630, c631, at_, hI⟩
    · refine go_seq ?_
      replace H := must_some H
      obtain ⟨g640, H⟩ := H
      obtain ⟨b641, rfl⟩ := hI.rowAt 3 rfl g640
      replace H := bind_some H
      obtain ⟨y642, hy643, H⟩ := H
      refine go_held (fun w => Inv M w [.blk b3 25 [vS A0z0 a0.Keys.length c0z0, vS A0z1 a0.Txns.length c0z1], .blk b4 37 [vI a1.Txn, vI a1.Place, vI a1.Key, vS A1z0 a1.Base.length c1z0], .row (tInt .i64) 3 A523 l522.length c524 l522, .row (tInt .i64) 3 (some ⟨b641, 0, none⟩) y9.length c12 y9]) (by kernel_rfl) ?_
      replace hI := hI.drew'
      refine hx (n := 2) [(0, .l 0 0), (1, .p), (2, .p), (3, .x), (4, .l 1 0), (5, .p), (6, .l 2 2)] (fun _ hS => (gC (hS.grp 0 rfl) ((rdS.flook (hS.row 3 rfl) (hS.rowlen 3 rfl) g640).ok) (hS.grp 1 rfl))) hI _ (bZ g640) ?_
      refine ho (n := 1) 7 rfl (ec (enter72 _) (assizeref05zWrote_calls a0 A0z0 c0z0 A0z1 c0z1 (idx y9 x526) a1.Key (memOf _) _ (Inv.start _) (hI.rd hr0z0) hl0z0 (hI.rd hr0z1) hl0z1 _ hy643) ?_)
      rintro _ _ ⟨A644, c645, rfl, hI'⟩
      replace hI := hI.call0 hI'
      clear hI'
      refine ⟨_, rfl, ?_⟩
      refine ⟨(hI.pk [0, 1, 2, 3]), ?_⟩
      refine hg (n := 0) [(8, .p)] (fun _ hS => gO) (hI.pk [0, 1, 2, 3]) (hd (go_seq (rp 1 (go_seq (go_seq (rp 1 (go_block ?_)))))))
      refine go_iter (assizeref10zset.s3 a1 y9 l522 x525 x526 y642) (fun (x736, x737) f w => ∃ (j : Nat → Value), f = updL j [(2, vP b3 0), (3, vP b4 0), (6, vS A523 l522.length c524), (7, vI x525), (8, vS (some ⟨b641, 0, none⟩) y9.length c12), (9, vI x526), (10, vS A644 y642.length c645), (11, vI x736), (12, vI x737)] ∧ Inv M w [.blk b3 25 [vS A0z0 a0.Keys.length c0z0, vS A0z1 a0.Txns.length c0z1], .blk b4 37 [vI a1.Txn, vI a1.Place, vI a1.Key, vS A1z0 a1.Base.length c1z0], .row (tInt .i64) 3 A523 l522.length c524 l522, .row (tInt .i64) 3 (some ⟨b641, 0, none⟩) y9.length c12 y9, .row (tInt .i64) 2 A644 y642.length c645 y642]) H ⟨_, at_, hI⟩ ?_
      clear H hI
      rintro ⟨x736, x737⟩ _ _ o2 H ⟨_, rfl, hI⟩ hin2 hout2
      refine go_seq (go_seq (rp 4 ?_))
      replace H := cond_some H
      rcases H with ⟨hc739, H⟩ | ⟨hc739, H⟩
      · refine gt hc739 (go_skip (go_seq ?_))
        refine go_block_join (o := o2) (fun x751 f w => ∃ (j : Nat → Value), f = updL j [(2, vP b3 0), (3, vP b4 0), (6, vS A523 l522.length c524), (7, vI x525), (8, vS (some ⟨b641, 0, none⟩) y9.length c12), (9, vI x526), (10, vS A644 y642.length c645), (11, vI x751), (12, vI x737)] ∧ Inv M w [.blk b3 25 [vS A0z0 a0.Keys.length c0z0, vS A0z1 a0.Txns.length c0z1], .blk b4 37 [vI a1.Txn, vI a1.Place, vI a1.Key, vS A1z0 a1.Base.length c1z0], .row (tInt .i64) 3 A523 l522.length c524 l522, .row (tInt .i64) 3 (some ⟨b641, 0, none⟩) y9.length c12 y9, .row (tInt .i64) 2 A644 y642.length c645 y642]) (fun x751 => assizeref10zset.j4 x737 x751) ?_ (fun hJ752 => ?_)
        · clear H hI
          rintro x751 _ _ ⟨_, rfl, hI⟩ H
          refine rp 3 ?_
          exact hin2 _ (Option.some.inj H).symm _ _ ⟨_, at_, hI⟩
        · refine go_seq ?_
          replace H := must_some H
          obtain ⟨g757, H⟩ := H
          obtain ⟨b758, rfl⟩ := hI.rowAt 4 rfl g757
          replace H := bind_some H
          obtain ⟨y759, hy760, H⟩ := H
          refine d_tail' 6 _ [(b4, 0, [vI a1.Txn, vI a1.Place, vI a1.Key, vS A1z0 a1.Base.length c1z0]), (b758, 0 + x737.toNat * 1, [vI (idx y642 x737)])] [.p, .l 0 3, .p, .p, .x, .l 1 0] [(36, vP b4 3), (37, vS A1z0 a1.Base.length c1z0), (38, vS (some ⟨b758, 0, none⟩) y642.length c645), (39, vI x737), (40, .pointer (some ⟨b758, 0 + x737.toNat * 1, none⟩)), (41, vI (idx y642 x737))] [(x737, y642.length)] (by kernel_rfl) (by kernel_rfl) rfl rfl ⟨(hI.grp 1 rfl), (rdS.flook (hI.row 4 rfl) (hI.rowlen 4 rfl) g757).ok, trivial⟩ ⟨g757, trivial⟩ (by kernel_rfl) (by kernel_rfl) (by kernel_rfl) (by kernel_rfl) hI ?_
          clear hI
          intro _ hI hsame
          refine ec (enter96 _) (assizeref10zholds_calls A1z0 c1z0 a1.Base (idx y642 x737) (memOf _) _ (Inv.start _) (hI.rd hr1z0) hl1z0 _ hy760) ?_
          rintro _ _ ⟨rfl, hI'⟩
          replace hI := hI.call0 hI'
          clear hI'
          refine ⟨_, rfl, ?_⟩
          replace H := cond_some H
          rcases H with ⟨hc761, H⟩ | ⟨hc761, H⟩
          · refine gt hc761 (rp 3 (go_inBlock ?_))
            exact hJ752 (w64 (x736 + 1)) _ _ ⟨_, at_, hI⟩ H
          · refine ge hc761 (go_skip (go_inBlock ?_))
            exact hJ752 x736 _ _ ⟨_, at_, hI⟩ H
      · refine ge hc739 ?_
        refine go_exit rfl ?_
        refine go_seq ?_
        refine go_seq_join (o := o2) (fun b766 f w => ∃ (j : Nat → Value), f = updL j [(2, vP b3 0), (3, vP b4 0), (6, vS A523 l522.length c524), (7, vI x525), (8, vS (some ⟨b641, 0, none⟩) y9.length c12), (9, vI x526), (11, vI x736), (52, vB b766)] ∧ Inv M w [.blk b3 25 [vS A0z0 a0.Keys.length c0z0, vS A0z1 a0.Txns.length c0z1], .blk b4 37 [vI a1.Txn, vI a1.Place, vI a1.Key, vS A1z0 a1.Base.length c1z0], .row (tInt .i64) 3 A523 l522.length c524 l522, .row (tInt .i64) 3 (some ⟨b641, 0, none⟩) y9.length c12 y9]) (fun b766 => assizeref10zset.j5 y9 l522 x525 x526 x736 b766) ?_ (fun hJ767 => ?_)
        · clear H hI
          rintro b766 _ _ ⟨_, rfl, hI⟩ H
          replace H := cond_some H
          rcases H with ⟨hc768, H⟩ | ⟨hc768, H⟩
          · refine gt hc768 (go_seq (rp 2 ?_))
            replace H := out_some H
            obtain ⟨_, H, he2⟩ := H
            have he := (hout2 _ he2).symm
            subst he
            replace H := out_some H
            obtain ⟨_, H, he1⟩ := H
            have he := (hout1 _ he1).symm
            subst he
            replace H := Option.some.inj H
            subst H
            exact gr Try.func74 ⟨none, 0, rfl, (hI.nilrow (tInt .i64) 3).pick [4] (by decide) rfl⟩
          · refine ge hc768 (go_skip (go_seq (rp 2 ?_)))
            replace H := cond_some H
            rcases H with ⟨hc769, H⟩ | ⟨hc769, H⟩
            · refine gt hc769 (go_seq (r_in (bx 0 [.p, .p, .p, .x, .l 0 0] (gA ((rdS.flook (hI.row 3 rfl) (hI.rowlen 3 rfl) g640).ok)) _ (bZ g640) (oe 5 rfl ?_))))
              refine e_partsS 32 3 1 _ _ _ #[vI (idx y9 x526)] [vI (idx y9 x526)] rfl rfl rfl rfl (by kernel_rfl) (by kernel_rfl) (by kernel_rfl) (by kernel_rfl) hI ?_
              clear hI
              intro b775 _ hs776 hI
              replace H := must_some H
              obtain ⟨g777, H⟩ := H
              refine oe 6 rfl ?_
              refine e_append (tInt .i64) 32 0 3 _ _ _ _ A523 l522.length c524 l522 ([idx y9 x526] : List Int) b775 0 1 1 [vI (idx y9 x526)] 2 [] [0, 1, 3, 4] [] [.blk b3 25 [vS A0z0 a0.Keys.length c0z0, vS A0z1 a0.Txns.length c0z1], .blk b4 37 [vI a1.Txn, vI a1.Place, vI a1.Key, vS A1z0 a1.Base.length c1z0], .row (tInt .i64) 3 (some ⟨b641, 0, none⟩) y9.length c12 y9, .blk b775 3 [vI (idx y9 x526)]] rfl (by kernel_rfl) (by kernel_rfl) rfl rfl rfl rfl rfl (by kernel_rfl) hI (by decide) rfl rfl rfl (hI.grp 4 rfl) g777 (mks_cons (mk_flat (k := (tInt .i64)) (idx y9 x526) [vI (idx y9 x526)] rfl) mks_nil) ?_
              clear hI
              intro A778 c779 _ hI
              replace hI := hI.pick (L' := [.row (tInt .i64) 3 A778 ((l522 ++ ([idx y9 x526] : List Int)).length) c779 (l522 ++ ([idx y9 x526] : List Int)), .blk b3 25 [vS A0z0 a0.Keys.length c0z0, vS A0z1 a0.Txns.length c0z1], .blk b4 37 [vI a1.Txn, vI a1.Place, vI a1.Key, vS A1z0 a1.Base.length c1z0], .row (tInt .i64) 3 (some ⟨b641, 0, none⟩) y9.length c12 y9]) [0, 1, 2, 3] (by decide) rfl
              refine bp 7 1 (ro (rp 4 (go_inBlock ?_)))
              replace H := out_some H
              obtain ⟨_, H, he2⟩ := H
              have he := (hout2 _ he2).symm
              subst he
              exact hJ633 (l522 ++ ([idx y9 x526] : List Int), w64 (x525 + x736)) _ _ ⟨_, A778, c779, at_, hI.pick [1, 2, 0, 3] (by decide) rfl⟩ H
            · refine ge hc769 (go_skip (go_inBlock ?_))
              replace H := out_some H
              obtain ⟨_, H, he2⟩ := H
              have he := (hout2 _ he2).symm
              subst he
              exact hJ633 (l522, x525) _ _ ⟨_, A523, c524, at_, hI⟩ H
        · refine r_in ?_
          replace H := cond_some H
          rcases H with ⟨hc780, H⟩ | ⟨hc780, H⟩
          · refine bx 0 [.p, .p, .c true, .p, .p, .p, .p, .p] gO _ (bZ (bndEq hc780)) (ro ?_)
            exact hJ767 (decide (x736 < (y642.length : Int))) _ _ ⟨_, at_, hI.pick [0, 1, 2, 3] (by decide) rfl⟩ H
          · refine bx 0 [.p, .p, .c false, .p, .p, .p, .p, .p] gO _ (bZ (bndEq hc780)) (ro ?_)
            exact hJ767 false _ _ ⟨_, at_, hI.pick [0, 1, 2, 3] (by decide) rfl⟩ H
  · refine ge hc528 ?_
    refine go_exit rfl ?_
    refine go_seq (go_seq (rg [.p, .p, .l 0 3, .p, .p] (gA (hI.grp 1 rfl)) ?_))
    replace H := cond_some H
    rcases H with ⟨hc782, H⟩ | ⟨hc782, H⟩
    · refine gt hc782 (go_seq (rp 2 ?_))
      replace H := out_some H
      obtain ⟨_, H, he1⟩ := H
      have he := (hout1 _ he1).symm
      subst he
      replace H := Option.some.inj H
      subst H
      exact gr Try.func74 ⟨none, 0, rfl, (hI.nilrow (tInt .i64) 3).pick [4] (by decide) rfl⟩
    · refine ge hc782 (go_skip (go_seq (rp 3 ?_)))
      replace H := out_some H
      obtain ⟨_, H, he1⟩ := H
      have he := (hout1 _ he1).symm
      subst he
      replace H := Option.some.inj H
      subst H
      exact gr Try.func74 ⟨A523, c524, rfl, hI.pick [2] (by decide) rfl⟩
theorem enter38 (a : Array Value) : Sem.pureRun Try.prog (callFunc 38 a) = some (.enter 38 a) := by kernel_rfl
theorem assizeref10zOf_calls (a0 : History) (A0z0 : Option Addr) (c0z0 : Nat) (A0z1 : Option Addr) (c0z1 : Nat) (a1 : Ask) (A1z0 : Option Addr) (c1z0 : Nat) (M : Mem) (w : World) (hI : Inv M w []) (hr0z0 : rdS tStr M.blk A0z0 a0.Keys) (hl0z0 : a0.Keys.length ≤ c0z0) (hr0z1 : rdS kTxn M.blk A0z1 a0.Txns) (hl0z1 : a0.Txns.length ≤ c0z1) (hr1z0 : rdS (tInt .i64) M.blk A1z0 a1.Base) (hl1z0 : a1.Base.length ≤ c1z0) (r : List Int) (H : assizeref10zOf a0 a1 = some r) :
    Calls Try.prog 38 #[.agg #[vS A0z0 a0.Keys.length c0z0, vS A0z1 a0.Txns.length c0z1], .agg #[vI a1.Txn, vI a1.Place, vI a1.Key, vS A1z0 a1.Base.length c1z0]] w fun e w' => ∃ (A555 : Option Addr), ∃ (c556 : Nat), e = .returned (vS A555 r.length c556) ∧ Inv M w' [.row (tInt .i64) 3 A555 r.length c556 r] := by
  refine cg Try.func38 ?_
  intro cs
  unfold assizeref10zOf at H
  refine go_seq (r_in (oe 0 rfl ?_))
  refine e_box 25 _ (.agg #[vS A0z0 a0.Keys.length c0z0, vS A0z1 a0.Txns.length c0z1]) [vS A0z0 a0.Keys.length c0z0, vS A0z1 a0.Txns.length c0z1] rfl (by kernel_rfl) rfl hI ?_
  clear hI
  intro b3 _ hI
  refine oe 1 rfl ?_
  refine e_box 37 _ (.agg #[vI a1.Txn, vI a1.Place, vI a1.Key, vS A1z0 a1.Base.length c1z0]) [vI a1.Txn, vI a1.Place, vI a1.Key, vS A1z0 a1.Base.length c1z0] rfl (by kernel_rfl) rfl hI ?_
  clear hI
  intro b4 _ hI
  refine bp 2 1 (ro (go_seq (r_in (bg 0 [.l 0 0, .l 1 0] (gB (hI.grp 0 rfl) (hI.grp 1 rfl)) ?_))))
  replace H := bind_some H
  obtain ⟨y7, hy8, H⟩ := H
  refine oe 2 rfl ?_
  refine ec (enter69 _) (assizeref10zkind_calls a0 A0z0 c0z0 A0z1 c0z1 a1 A1z0 c1z0 (memOf _) _ (Inv.start _) (hI.rd hr0z0) hl0z0 (hI.rd hr0z1) hl0z1 (hI.rd hr1z0) hl1z0 _ hy8) ?_
  rintro _ _ ⟨rfl, hI'⟩
  replace hI := hI.call0 hI'
  clear hI'
  refine ⟨_, rfl, ?_⟩
  refine bp 3 1 (ro (go_seq (go_seq (rp 2 ?_))))
  replace H := cond_some H
  rcases H with ⟨hc26, H⟩ | ⟨hc26, H⟩
  · refine gt hc26 (go_seq (r_in (bg 0 [.l 0 0, .l 1 0] (gB (hI.grp 0 rfl) (hI.grp 1 rfl)) ?_)))
    replace H := bind_some H
    obtain ⟨y31, hy32, H⟩ := H
    refine oe 2 rfl ?_
    refine ec (enter70 _) (assizeref10zcounts_calls a0 A0z0 c0z0 A0z1 c0z1 a1 A1z0 c1z0 (memOf _) _ (Inv.start _) (hI.rd hr0z0) hl0z0 (hI.rd hr0z1) hl0z1 (hI.rd hr1z0) hl1z0 _ hy32) ?_
    rintro _ _ ⟨A33, c34, rfl, hI'⟩
    replace hI := hI.call0 hI'
    clear hI'
    refine ⟨_, rfl, ?_⟩
    refine bp 3 1 (ro ?_)
    refine go_seq_join (o := r) (fun l44 f w => ∃ (j : Nat → Value) (A45 : Option Addr) (c46 : Nat), f = updL j [(6, vS A45 l44.length c46)] ∧ Inv M w [.row (tInt .i64) 3 A45 l44.length c46 l44]) (fun l44 => assizeref10zOf.j1 l44) ?_ (fun hJ47 => ?_)
    · clear H hI
      rintro l44 _ _ ⟨_, A45, c46, rfl, hI⟩ H
      refine go_seq (rp 2 ?_)
      replace H := Option.some.inj H
      subst H
      exact gr Try.func38 ⟨A45, c46, rfl, hI⟩
    · refine go_seq (r_in ?_)
      replace H := must_some H
      obtain ⟨g51, H⟩ := H
      obtain ⟨b52, q53, rfl, _⟩ := rdS.fopen hr1z0 rfl g51
      refine bx 0 [.p, .l 0 3, .x, .l 1 0, .p] (gB (hI.grp 1 rfl) (hI.lies (rdS.flook hr1z0 rfl g51))) _ (bZ g51) (ro ?_)
      replace H := cond_some H
      rcases H with ⟨hc54, H⟩ | ⟨hc54, H⟩
      · refine gt hc54 (r_in (oe 0 rfl ?_))
        refine e_partsS 32 3 1 _ _ _ #[vI (-1)] [vI (-1)] rfl rfl rfl rfl (by kernel_rfl) (by kernel_rfl) (by kernel_rfl) (by kernel_rfl) hI ?_
        clear hI
        intro b55 _ hs56 hI
        replace hI := hI.asrow (k := (tInt .i64)) (xs := ([(-1)] : List Int)) (cs := [vI (-1)]) (R := []) (L' := [.blk b3 25 [vS A0z0 a0.Keys.length c0z0, vS A0z1 a0.Txns.length c0z1], .blk b4 37 [vI a1.Txn, vI a1.Place, vI a1.Key, vS (some ⟨b52, q53, none⟩) a1.Base.length c1z0], .row (tInt .i64) 3 A33 y31.length c34 y31]) 1 3 [] [0, 1, 2] (by decide) rfl (mks_cons (mk_flat (k := (tInt .i64)) (-1) [vI (-1)] rfl) mks_nil) rfl rfl (by kernel_rfl)
        refine bp 1 1 ?_
        replace H := must_some H
        obtain ⟨g57, H⟩ := H
        refine oe 2 rfl ?_
        refine e_append_rd (kt := (tInt .i64)) 32 0 3 _ _ _ _ (some ⟨b55, 0, none⟩) A33 1 1 ([(-1)] : List Int) y31 c34 0 [1, 2, 3] [.blk b3 25 [vS A0z0 a0.Keys.length c0z0, vS A0z1 a0.Txns.length c0z1], .blk b4 37 [vI a1.Txn, vI a1.Place, vI a1.Key, vS (some ⟨b52, q53, none⟩) a1.Base.length c1z0], .row (tInt .i64) 3 A33 y31.length c34 y31] rfl (by kernel_rfl) (by kernel_rfl) rfl rfl rfl rfl rfl (by kernel_rfl) hI (by decide) rfl (hI.row 3 rfl) g57 ?_
        clear hI
        intro A58 c59 _ hI
        refine bp 3 1 (ro ?_)
        exact hJ47 (([(-1)] : List Int) ++ y31) _ _ ⟨_, A58, c59, at_, hI.pick [0] (by decide) rfl⟩ H
      · refine ge hc54 (go_skip ?_)
        exact hJ47 y31 _ _ ⟨_, A33, c34, at_, hI.pick [2] (by decide) rfl⟩ H
  · refine ge hc26 (go_skip (go_seq (go_seq (rg [.p, .l 0 3, .p, .p] (gA (hI.grp 1 rfl)) ?_))))
    replace H := cond_some H
    rcases H with ⟨hc63, H⟩ | ⟨hc63, H⟩
    · refine gt hc63 (go_seq (r_in (oe 0 rfl ?_)))
      refine e_partsS 32 3 1 _ _ _ #[vI (-1)] [vI (-1)] rfl rfl rfl rfl (by kernel_rfl) (by kernel_rfl) (by kernel_rfl) (by kernel_rfl) hI ?_
      clear hI
      intro b66 _ hs67 hI
      replace hI := hI.asrow (k := (tInt .i64)) (xs := ([(-1)] : List Int)) (cs := [vI (-1)]) (R := []) (L' := [.blk b3 25 [vS A0z0 a0.Keys.length c0z0, vS A0z1 a0.Txns.length c0z1], .blk b4 37 [vI a1.Txn, vI a1.Place, vI a1.Key, vS A1z0 a1.Base.length c1z0]]) 1 2 [] [0, 1] (by decide) rfl (mks_cons (mk_flat (k := (tInt .i64)) (-1) [vI (-1)] rfl) mks_nil) rfl rfl (by kernel_rfl)
      refine bp 1 1 (ro ?_)
      refine go_is 4 (vS (some ⟨b66, 0, none⟩) 1 1) (vS (some ⟨b66, 0, none⟩) (([(-1)] : List Int).length) 1) (by kernel_rfl) (by first | rfl | simp only [List.length_set, List.length_replicate, List.length_nil]) ?_
      replace hI := hI.renum 0 rfl
      replace H := Option.some.inj H
      subst H
      exact gr Try.func38 ⟨(some ⟨b66, 0, none⟩), 1, rfl, hI.pick [0] (by decide) rfl⟩
    · refine ge hc63 (go_skip (go_seq (rp 1 (go_seq (go_seq (rp 1 ?_))))))
      refine go_block_join (o := r) (fun l291 f w => ∃ (j : Nat → Value) (A292 : Option Addr) (c293 : Nat), f = updL j [(7, vS A292 l291.length c293)] ∧ Inv M w [.row (tInt .i64) 3 A292 l291.length c293 l291]) (fun l291 => assizeref10zOf.j2 l291) ?_ (fun hJ294 => ?_)
      · clear H hI
        rintro l291 _ _ ⟨_, A292, c293, rfl, hI⟩ H
        refine go_seq (rp 2 ?_)
        replace H := Option.some.inj H
        subst H
        exact gr Try.func38 ⟨A292, c293, rfl, hI⟩
      · refine go_seq (rp 2 ?_)
        replace H := cond_some H
        rcases H with ⟨hc295, H⟩ | ⟨hc295, H⟩
        · refine gt hc295 (go_seq (r_in (bg 0 [.l 0 0, .l 1 0] (gB (hI.grp 0 rfl) (hI.grp 1 rfl)) ?_)))
          replace H := bind_some H
          obtain ⟨y300, hy301, H⟩ := H
          refine oe 2 rfl ?_
          refine ec (enter71 _) (assizeref10zothers_calls a0 A0z0 c0z0 A0z1 c0z1 a1 A1z0 c1z0 (memOf _) _ (Inv.start _) (hI.rd hr0z0) hl0z0 (hI.rd hr0z1) hl0z1 (hI.rd hr1z0) hl1z0 _ hy301) ?_
          rintro _ _ ⟨A302, c303, rfl, hI'⟩
          replace hI := hI.call0 hI'
          clear hI'
          refine ⟨_, rfl, ?_⟩
          refine bp 3 1 (ro (go_seq (rp 1 (go_block ?_))))
          refine go_iter (assizeref10zOf.s3 a0 a1 y300) (fun (l453, x456) f w => ∃ (j : Nat → Value) (A454 : Option Addr) (c455 : Nat), f = updL j [(2, vP b3 0), (3, vP b4 0), (7, vS A454 l453.length c455), (8, vS A302 y300.length c303), (9, vI x456)] ∧ Inv M w [.blk b3 25 [vS A0z0 a0.Keys.length c0z0, vS A0z1 a0.Txns.length c0z1], .blk b4 37 [vI a1.Txn, vI a1.Place, vI a1.Key, vS A1z0 a1.Base.length c1z0], .row (tInt .i64) 3 A454 l453.length c455 l453, .row (tInt .i64) 3 A302 y300.length c303 y300]) H ⟨_, none, 0, at_, (hI.nilrow (tInt .i64) 3).pick [0, 1, 3, 2] (by decide) rfl⟩ ?_
          clear H hI
          rintro ⟨l453, x456⟩ _ _ o1 H ⟨_, A454, c455, rfl, hI⟩ hin1 hout1
          refine go_seq (go_seq (rp 4 ?_))
          replace H := cond_some H
          rcases H with ⟨hc458, H⟩ | ⟨hc458, H⟩
          · refine gt hc458 (go_skip (go_seq ?_))
            refine go_block_join (o := o1) (fun l496 f w => ∃ (j : Nat → Value) (A497 : Option Addr) (c498 : Nat), f = updL j [(2, vP b3 0), (3, vP b4 0), (7, vS A497 l496.length c498), (8, vS A302 y300.length c303), (9, vI x456)] ∧ Inv M w [.blk b3 25 [vS A0z0 a0.Keys.length c0z0, vS A0z1 a0.Txns.length c0z1], .blk b4 37 [vI a1.Txn, vI a1.Place, vI a1.Key, vS A1z0 a1.Base.length c1z0], .row (tInt .i64) 3 A497 l496.length c498 l496, .row (tInt .i64) 3 A302 y300.length c303 y300]) (fun l496 => assizeref10zOf.j4 x456 l496) ?_ (fun hJ499 => ?_)
            · clear H hI
              rintro l496 _ _ ⟨_, A497, c498, rfl, hI⟩ H
              refine rp 3 ?_
              exact hin1 _ (Option.some.inj H).symm _ _ ⟨_, A497, c498, at_, hI⟩
            · refine go_seq ?_
              replace H := must_some H
              obtain ⟨g506, H⟩ := H
              obtain ⟨b507, rfl⟩ := hI.rowAt 3 rfl g506
              replace H := bind_some H
              obtain ⟨y508, hy509, H⟩ := H
              refine go_held (fun w => Inv M w [.blk b3 25 [vS A0z0 a0.Keys.length c0z0, vS A0z1 a0.Txns.length c0z1], .blk b4 37 [vI a1.Txn, vI a1.Place, vI a1.Key, vS A1z0 a1.Base.length c1z0], .row (tInt .i64) 3 A454 l453.length c455 l453, .row (tInt .i64) 3 (some ⟨b507, 0, none⟩) y300.length c303 y300]) (by kernel_rfl) ?_
              replace hI := hI.drew'
              refine hx (n := 2) [(0, .l 0 0), (1, .p), (2, .p), (3, .x), (4, .l 1 0), (5, .p), (6, .l 2 2)] (fun _ hS => (gC (hS.grp 0 rfl) ((rdS.flook (hS.row 3 rfl) (hS.rowlen 3 rfl) g506).ok) (hS.grp 1 rfl))) hI _ (bZ g506) ?_
              refine ho (n := 1) 7 rfl (ec (enter72 _) (assizeref05zWrote_calls a0 A0z0 c0z0 A0z1 c0z1 (idx y300 x456) a1.Key (memOf _) _ (Inv.start _) (hI.rd hr0z0) hl0z0 (hI.rd hr0z1) hl0z1 _ hy509) ?_)
              rintro _ _ ⟨A510, c511, rfl, hI'⟩
              replace hI := hI.call0 hI'
              clear hI'
              refine ⟨_, rfl, ?_⟩
              refine ⟨(hI.pk [0, 1, 2, 3]), ?_⟩
              refine hg (n := 0) [(8, .p)] (fun _ hS => gO) (hI.pk [0, 1, 2, 3]) (hd (go_seq ?_))
              replace H := must_some H
              obtain ⟨g517, H⟩ := H
              obtain ⟨b518, rfl⟩ := hI.rowAt 4 rfl g517
              replace H := must_some H
              obtain ⟨g519, H⟩ := H
              obtain ⟨b520, q521, rfl, _⟩ := rdS.fopen hr1z0 rfl g519
              refine dx [.p, .p, .p, .p, .x, .l 0 0, .p, .l 1 3, .x, .l 2 0, .p] (gC ((rdS.flook (hI.row 4 rfl) (hI.rowlen 4 rfl) g517).ok) (hI.grp 1 rfl) (hI.lies (rdS.flook hr1z0 rfl g519))) _ (bC g517 (bZ g519)) hI ?_
              clear hI
              intro _ hI
              replace H := cond_some H
              rcases H with ⟨hc522, H⟩ | ⟨hc522, H⟩
              · refine gt hc522 (r_in (bx 0 [.p, .p, .p, .x, .l 0 0] (gA ((rdS.flook (hI.row 3 rfl) (hI.rowlen 3 rfl) g506).ok)) _ (bZ g506) (oe 5 rfl ?_)))
                refine e_partsS 32 3 1 _ _ _ #[vI (idx y300 x456)] [vI (idx y300 x456)] rfl rfl rfl rfl (by kernel_rfl) (by kernel_rfl) (by kernel_rfl) (by kernel_rfl) hI ?_
                clear hI
                intro b523 _ hs524 hI
                replace H := must_some H
                obtain ⟨g525, H⟩ := H
                refine oe 6 rfl ?_
                refine e_append (tInt .i64) 32 0 3 _ _ _ _ A454 l453.length c455 l453 ([idx y300 x456] : List Int) b523 0 1 1 [vI (idx y300 x456)] 2 [] [0, 1, 3, 4, 5] [] [.blk b3 25 [vS A0z0 a0.Keys.length c0z0, vS A0z1 a0.Txns.length c0z1], .blk b4 37 [vI a1.Txn, vI a1.Place, vI a1.Key, vS (some ⟨b520, q521, none⟩) a1.Base.length c1z0], .row (tInt .i64) 3 (some ⟨b507, 0, none⟩) y300.length c303 y300, .row (tInt .i64) 2 (some ⟨b518, 0, none⟩) y508.length c511 y508, .blk b523 3 [vI (idx y300 x456)]] rfl (by kernel_rfl) (by kernel_rfl) rfl rfl rfl rfl rfl (by kernel_rfl) hI (by decide) rfl rfl rfl (hI.grp 5 rfl) g525 (mks_cons (mk_flat (k := (tInt .i64)) (idx y300 x456) [vI (idx y300 x456)] rfl) mks_nil) ?_
                clear hI
                intro A526 c527 _ hI
                replace hI := hI.pick (L' := [.row (tInt .i64) 3 A526 ((l453 ++ ([idx y300 x456] : List Int)).length) c527 (l453 ++ ([idx y300 x456] : List Int)), .blk b3 25 [vS A0z0 a0.Keys.length c0z0, vS A0z1 a0.Txns.length c0z1], .blk b4 37 [vI a1.Txn, vI a1.Place, vI a1.Key, vS (some ⟨b520, q521, none⟩) a1.Base.length c1z0], .row (tInt .i64) 3 (some ⟨b507, 0, none⟩) y300.length c303 y300, .row (tInt .i64) 2 (some ⟨b518, 0, none⟩) y508.length c511 y508]) [0, 1, 2, 3, 4] (by decide) rfl
                refine bp 7 1 (ro (go_inBlock ?_))
                exact hJ499 (l453 ++ ([idx y300 x456] : List Int)) _ _ ⟨_, A526, c527, at_, hI.pick [1, 2, 0, 3] (by decide) rfl⟩ H
              · refine ge hc522 (go_skip (go_inBlock ?_))
                exact hJ499 l453 _ _ ⟨_, A454, c455, at_, hI.pick [0, 1, 2, 3] (by decide) rfl⟩ H
          · refine ge hc458 ?_
            refine go_exit rfl ?_
            refine go_inBlock ?_
            replace H := out_some H
            obtain ⟨_, H, he1⟩ := H
            have he := (hout1 _ he1).symm
            subst he
            exact hJ294 l453 _ _ ⟨_, A454, c455, at_, hI.pick [2] (by decide) rfl⟩ H
        · refine ge hc295 (go_seq (rp 2 ?_))
          replace H := cond_some H
          rcases H with ⟨hc528, H⟩ | ⟨hc528, H⟩
          · refine gt hc528 (go_seq (r_in (bg 0 [.l 0 0, .l 1 0] (gB (hI.grp 0 rfl) (hI.grp 1 rfl)) ?_)))
            replace H := bind_some H
            obtain ⟨y533, hy534, H⟩ := H
            refine oe 2 rfl ?_
            refine ec (enter73 _) (assizeref10zlist_calls a0 A0z0 c0z0 A0z1 c0z1 a1 A1z0 c1z0 (memOf _) _ (Inv.start _) (hI.rd hr0z0) hl0z0 (hI.rd hr0z1) hl0z1 (hI.rd hr1z0) hl1z0 _ hy534) ?_
            rintro _ _ ⟨A535, c536, rfl, hI'⟩
            replace hI := hI.call0 hI'
            clear hI'
            refine ⟨_, rfl, ?_⟩
            refine bp 3 5 (ro (go_seq (rp 1 ?_)))
            replace H := cond_some H
            rcases H with ⟨hc537, H⟩ | ⟨hc537, H⟩
            · refine gt hc537 (r_in ?_)
              replace H := must_some H
              obtain ⟨g538, H⟩ := H
              obtain ⟨b539, rfl⟩ := hI.rowAt 2 rfl g538
              refine bx 0 [.p, .p, .p, .p, .p, .x, .l 0 0] (gA ((rdS.flook (hI.row 2 rfl) (hI.rowlen 2 rfl) g538).ok)) _ (bZ g538) (oe 7 rfl ?_)
              refine e_partsS 32 3 1 _ _ _ #[vI (idx y533.1 (w64 ((y533.1.length : Int) - 1)))] [vI (idx y533.1 (w64 ((y533.1.length : Int) - 1)))] rfl rfl rfl rfl (by kernel_rfl) (by kernel_rfl) (by kernel_rfl) (by kernel_rfl) hI ?_
              clear hI
              intro b540 _ hs541 hI
              replace H := must_some H
              obtain ⟨g542, H⟩ := H
              replace hI := hI.nilrow (tInt .i64) 3
              refine oe 8 rfl ?_
              refine e_append (tInt .i64) 32 0 3 _ _ _ _ none 0 0 ([] : List Int) ([idx y533.1 (w64 ((y533.1.length : Int) - 1))] : List Int) b540 0 1 1 [vI (idx y533.1 (w64 ((y533.1.length : Int) - 1)))] 4 [] [0, 1, 2, 3] [] [.blk b3 25 [vS A0z0 a0.Keys.length c0z0, vS A0z1 a0.Txns.length c0z1], .blk b4 37 [vI a1.Txn, vI a1.Place, vI a1.Key, vS A1z0 a1.Base.length c1z0], .row (tInt .i64) 3 (some ⟨b539, 0, none⟩) y533.1.length c536 y533.1, .blk b540 3 [vI (idx y533.1 (w64 ((y533.1.length : Int) - 1)))]] rfl (by kernel_rfl) (by kernel_rfl) rfl rfl rfl rfl rfl (by kernel_rfl) hI (by decide) rfl rfl rfl (hI.grp 3 rfl) g542 (mks_cons (mk_flat (k := (tInt .i64)) (idx y533.1 (w64 ((y533.1.length : Int) - 1))) [vI (idx y533.1 (w64 ((y533.1.length : Int) - 1)))] rfl) mks_nil) ?_
              clear hI
              intro A543 c544 _ hI
              replace hI := hI.pick (L' := [.row (tInt .i64) 3 A543 ((([] : List Int) ++ ([idx y533.1 (w64 ((y533.1.length : Int) - 1))] : List Int)).length) c544 (([] : List Int) ++ ([idx y533.1 (w64 ((y533.1.length : Int) - 1))] : List Int)), .blk b3 25 [vS A0z0 a0.Keys.length c0z0, vS A0z1 a0.Txns.length c0z1], .blk b4 37 [vI a1.Txn, vI a1.Place, vI a1.Key, vS A1z0 a1.Base.length c1z0], .row (tInt .i64) 3 (some ⟨b539, 0, none⟩) y533.1.length c536 y533.1]) [0, 1, 2, 3] (by decide) rfl
              refine bp 9 1 (ro (go_inBlock ?_))
              exact hJ294 (([] : List Int) ++ ([idx y533.1 (w64 ((y533.1.length : Int) - 1))] : List Int)) _ _ ⟨_, A543, c544, at_, hI.pick [0] (by decide) rfl⟩ H
            · refine ge hc537 (go_skip (go_inBlock ?_))
              exact hJ294 [] _ _ ⟨_, none, 0, at_, (hI.nilrow (tInt .i64) 3).pick [3] (by decide) rfl⟩ H
          · refine ge hc528 (go_seq (r_in (bg 0 [.l 0 0, .l 1 0] (gB (hI.grp 0 rfl) (hI.grp 1 rfl)) ?_)))
            replace H := bind_some H
            obtain ⟨y549, hy550, H⟩ := H
            refine oe 2 rfl ?_
            refine ec (enter74 _) (assizeref10zset_calls a0 A0z0 c0z0 A0z1 c0z1 a1 A1z0 c1z0 (memOf _) _ (Inv.start _) (hI.rd hr0z0) hl0z0 (hI.rd hr0z1) hl0z1 (hI.rd hr1z0) hl1z0 _ hy550) ?_
            rintro _ _ ⟨A551, c552, rfl, hI'⟩
            replace hI := hI.call0 hI'
            clear hI'
            refine ⟨_, rfl, ?_⟩
            refine bp 3 5 (ro (go_seq (rp 1 ?_)))
            replace H := cond_some H
            rcases H with ⟨hc553, H⟩ | ⟨hc553, H⟩
            · refine gt hc553 (rp 2 (go_inBlock ?_))
              exact hJ294 y549.1 _ _ ⟨_, A551, c552, at_, hI.pick [2] (by decide) rfl⟩ H
            · refine ge hc553 (go_skip (go_inBlock ?_))
              exact hJ294 [] _ _ ⟨_, none, 0, at_, (hI.nilrow (tInt .i64) 3).pick [3] (by decide) rfl⟩ H
theorem enter12 (a : Array Value) : Sem.pureRun Try.prog (callFunc 12 a) = some (.enter 12 a) := by kernel_rfl
theorem assizeref10zEmpty_calls (a0 : History) (A0z0 : Option Addr) (c0z0 : Nat) (A0z1 : Option Addr) (c0z1 : Nat) (M : Mem) (w : World) (hI : Inv M w []) (hr0z0 : rdS tStr M.blk A0z0 a0.Keys) (hl0z0 : a0.Keys.length ≤ c0z0) (hr0z1 : rdS kTxn M.blk A0z1 a0.Txns) (hl0z1 : a0.Txns.length ≤ c0z1) (r : List Ask × Int) (H : assizeref10zEmpty a0 = some r) :
    Calls Try.prog 12 #[.agg #[vS A0z0 a0.Keys.length c0z0, vS A0z1 a0.Txns.length c0z1]] w fun e w' => ∃ (A499 : Option Addr), ∃ (c500 : Nat), e = .returned (.tuple #[vS A499 r.1.length c500, vI r.2]) ∧ Inv M w' [orA noM kAsk 37 A499 r.1.length c500 r.1] := by
  refine cg Try.func12 ?_
  intro cs
  unfold assizeref10zEmpty at H
  refine go_seq (r_in (oe 0 rfl ?_))
  refine e_box 25 _ (.agg #[vS A0z0 a0.Keys.length c0z0, vS A0z1 a0.Txns.length c0z1]) [vS A0z0 a0.Keys.length c0z0, vS A0z1 a0.Txns.length c0z1] rfl (by kernel_rfl) rfl hI ?_
  clear hI
  intro b2 _ hI
  refine bp 1 2 (ro (go_seq (go_seq (r_in (bg 0 [.l 0 0] (gA (hI.grp 0 rfl)) ?_)))))
  replace H := bind_some H
  obtain ⟨y8, hy9, H⟩ := H
  refine oe 1 rfl ?_
  refine ec (enter36 _) (assizeref05zCheck_calls a0 A0z0 c0z0 A0z1 c0z1 (memOf _) _ (Inv.start _) (hI.rd hr0z0) hl0z0 (hI.rd hr0z1) hl0z1 _ hy9) ?_
  rintro _ _ ⟨rfl, hI'⟩
  replace hI := hI.call0 hI'
  clear hI'
  refine ⟨_, rfl, ?_⟩
  refine bp 2 1 (ro ?_)
  replace H := cond_some H
  rcases H with ⟨hc10, H⟩ | ⟨hc10, H⟩
  · refine gt hc10 (go_seq (rp 2 ?_))
    replace H := Option.some.inj H
    subst H
    exact gr Try.func12 ⟨none, 0, rfl, (hI.addOr (k := kAsk) (N := noM) 37 (.inl rfl) (Nat.le_refl _) rfl).pick [1] (by decide) rfl⟩
  · refine ge hc10 (go_skip (go_seq (r_in (bg 0 [.l 0 0] (gA (hI.grp 0 rfl)) ?_))))
    replace H := bind_some H
    obtain ⟨y31, hy32, H⟩ := H
    refine oe 1 rfl ?_
    refine ec (enter37 _) (assizeref09zAll_calls a0 A0z0 c0z0 A0z1 c0z1 (memOf _) _ (Inv.start _) (hI.rd hr0z0) hl0z0 (hI.rd hr0z1) hl0z1 _ hy32) ?_
    rintro _ _ ⟨A33, c34, A35, c36, rfl, hI'⟩
    replace hI := hI.call0 hI'
    clear hI'
    refine ⟨_, rfl, ?_⟩
    refine bp 2 5 (ro ?_)
    obtain ⟨M37, F38, X44, hs39, hb40, ho41, hI', hX45, ho46, hb47⟩ := hI.lendX 1 rfl
    have hr48 := rowOwn.rd ho46.1
    clear hI
    have hI := hI'.pick (L' := [.blk b2 25 [vS A0z0 a0.Keys.length c0z0, vS A0z1 a0.Txns.length c0z1], .row kSpot 160 A35 y31.2.length c36 y31.2]) [0, 2] (by decide) rfl
    clear hI'
    have hr42 := rowOwn.rd ho41.1
    have hl43 := rowOwn.le ho41.1
    have hf49 := rdS.mono hr0z0 hs39
    have hf50 := rdS.mono hr0z1 hs39
    refine go_seq (rp 1 (go_seq (go_seq (rp 1 (go_block ?_)))))
    refine go_iter (assizeref10zEmpty.s1 a0 y31) (fun (l383, x386) f w => ∃ (j : Nat → Value) (A384 : Option Addr) (c385 : Nat), f = updL j [(1, vP b2 0), (4, vS A33 y31.1.length c34), (6, vS A384 l383.length c385), (7, vI x386)] ∧ Inv M37 w [.blk b2 25 [vS A0z0 a0.Keys.length c0z0, vS A0z1 a0.Txns.length c0z1], .row (kAskL X44) 37 A384 l383.length c385 l383]) H ⟨_, none, 0, at_, (hI.nilrow (kAskL X44) 37).pick [0, 2] (by decide) rfl⟩ ?_
    clear H hI
    rintro ⟨l383, x386⟩ _ _ o1 H ⟨_, A384, c385, rfl, hI⟩ hin1 hout1
    refine go_seq (go_seq (rp 4 ?_))
    replace H := cond_some H
    rcases H with ⟨hc388, H⟩ | ⟨hc388, H⟩
    · refine gt hc388 (go_skip (go_seq ?_))
      refine go_block_join (o := o1) (fun l450 f w => ∃ (j : Nat → Value) (A451 : Option Addr) (c452 : Nat), f = updL j [(1, vP b2 0), (4, vS A33 y31.1.length c34), (6, vS A451 l450.length c452), (7, vI x386)] ∧ Inv M37 w [.blk b2 25 [vS A0z0 a0.Keys.length c0z0, vS A0z1 a0.Txns.length c0z1], .row (kAskL X44) 37 A451 l450.length c452 l450]) (fun l450 => assizeref10zEmpty.j2 x386 l450) ?_ (fun hJ453 => ?_)
      · clear H hI
        rintro l450 _ _ ⟨_, A451, c452, rfl, hI⟩ H
        refine rp 3 ?_
        exact hin1 _ (Option.some.inj H).symm _ _ ⟨_, A451, c452, at_, hI⟩
      · refine go_seq ?_
        replace H := must_some H
        obtain ⟨g469, H⟩ := H
        obtain ⟨b473, q474, rfl, cs472, hk471, hg470⟩ := rdS.open hr48 rfl g469
        obtain ⟨_, _, rfl, rfl, ⟨_, _, rfl, rfl, ⟨_, _, rfl, rfl, ⟨A475, c476, rfl, hl478, hr477⟩⟩⟩⟩ := hk471
        replace hg470 := Lies.mono hg470 (fun b o h => (hX45 b o h))
        have hr479 := rdS.mono hr477 (fun b o h => (hX45 b o h))
        replace H := bind_some H
        obtain ⟨y480, hy481, H⟩ := H
        refine go_held (fun w => Inv M37 w [.blk b2 25 [vS A0z0 a0.Keys.length c0z0, vS A0z1 a0.Txns.length c0z1], .row (kAskL X44) 37 A384 l383.length c385 l383]) (by kernel_rfl) ?_
        replace hI := hI.drew'
        refine hx (n := 3) [(0, .l 0 0), (1, .p), (2, .p), (3, .x), (4, .l 1 0)] (fun _ hS => (gB (hS.grp 0 rfl) (hS.lies hg470))) hI _ (bZ g469) ?_
        refine ho (n := 2) 5 rfl (ec (enter38 _) (assizeref10zOf_calls a0 A0z0 c0z0 A0z1 c0z1 (idx y31.1 x386) A475 c476 (memOf _) _ (Inv.start _) (hI.rd hf49) hl0z0 (hI.rd hf50) hl0z1 (hI.rd hr479) hl478 _ hy481) ?_)
        rintro _ _ ⟨A482, c483, rfl, hI'⟩
        replace hI := hI.call0 hI'
        clear hI'
        refine ⟨_, rfl, ?_⟩
        refine ⟨(hI.pk [0, 1]), ?_⟩
        refine hg (n := 0) [(6, .p), (7, .p)] (fun _ hS => gO) (hI.pk [0, 1]) (hd ?_)
        replace H := cond_some H
        rcases H with ⟨hc484, H⟩ | ⟨hc484, H⟩
        · refine gt hc484 (r_in ?_)
          obtain ⟨cs487, hk486, hg485⟩ := rdS.look hr48 rfl g469
          obtain ⟨_, _, rfl, rfl, ⟨_, _, rfl, rfl, ⟨_, _, rfl, rfl, ⟨A488, c489, rfl, hl491, hr490⟩⟩⟩⟩ := hk486
          replace hg485 := Lies.mono hg485 (fun b o h => (hX45 b o h))
          have hr492 := rdS.mono hr490 (fun b o h => (hX45 b o h))
          refine bx 0 [.p, .p, .p, .x, .l 0 0] (gA (hI.lies hg485)) _ (bZ g469) (oe 5 rfl ?_)
          refine e_partsS 27 37 1 _ _ _ #[vI ((idx y31.1 x386).Txn), vI ((idx y31.1 x386).Place), vI ((idx y31.1 x386).Key), vS A488 (((idx y31.1 x386).Base).length) c489] [vI ((idx y31.1 x386).Txn), vI ((idx y31.1 x386).Place), vI ((idx y31.1 x386).Key), vS A488 (((idx y31.1 x386).Base).length) c489] rfl rfl rfl rfl (by kernel_rfl) (by kernel_rfl) (by kernel_rfl) (by kernel_rfl) hI ?_
          clear hI
          intro b493 _ hs494 hI
          replace H := must_some H
          obtain ⟨g495, H⟩ := H
          refine oe 6 rfl ?_
          refine e_append (kAskL X44) 27 0 37 _ _ _ _ A384 l383.length c385 l383 ([(idx y31.1 x386)] : List Ask) b493 0 1 1 [vI ((idx y31.1 x386).Txn), vI ((idx y31.1 x386).Place), vI ((idx y31.1 x386).Key), vS A488 (((idx y31.1 x386).Base).length) c489] 1 [] [0, 2, 3] [] [.blk b2 25 [vS A0z0 a0.Keys.length c0z0, vS A0z1 a0.Txns.length c0z1], .row (tInt .i64) 3 A482 y480.length c483 y480, .blk b493 37 [vI ((idx y31.1 x386).Txn), vI ((idx y31.1 x386).Place), vI ((idx y31.1 x386).Key), vS A488 (((idx y31.1 x386).Base).length) c489]] rfl (by kernel_rfl) (by kernel_rfl) rfl rfl rfl rfl rfl (by kernel_rfl) hI (by decide) rfl rfl rfl (hI.grp 3 rfl) g495 (mks_cons (mk_iso (g := fun g : Ask => (g.Txn, g.Place, g.Key, g.Base)) (x := (idx y31.1 x386)) (mk_pair (mk_flat (k := (tInt .i64)) ((idx y31.1 x386).Txn) [vI ((idx y31.1 x386).Txn)] rfl) (mk_pair (mk_flat (k := (tInt .i64)) ((idx y31.1 x386).Place) [vI ((idx y31.1 x386).Place)] rfl) (mk_pair (mk_flat (k := (tInt .i64)) ((idx y31.1 x386).Key) [vI ((idx y31.1 x386).Key)] rfl) (mk_lent hr490 rfl hl491))))) mks_nil) ?_
          clear hI
          intro A496 c497 _ hI
          replace hI := hI.pick (L' := [.row (kAskL X44) 37 A496 ((l383 ++ ([(idx y31.1 x386)] : List Ask)).length) c497 (l383 ++ ([(idx y31.1 x386)] : List Ask)), .blk b2 25 [vS A0z0 a0.Keys.length c0z0, vS A0z1 a0.Txns.length c0z1], .row (tInt .i64) 3 A482 y480.length c483 y480]) [0, 1, 2] (by decide) rfl
          refine bp 7 1 (ro (go_inBlock ?_))
          exact hJ453 (l383 ++ ([(idx y31.1 x386)] : List Ask)) _ _ ⟨_, A496, c497, at_, hI.pick [1, 0] (by decide) rfl⟩ H
        · refine ge hc484 (go_skip (go_inBlock ?_))
          exact hJ453 l383 _ _ ⟨_, A384, c385, at_, hI.pick [0, 1] (by decide) rfl⟩ H
    · refine ge hc388 ?_
      refine go_exit rfl ?_
      refine go_seq (rp 3 ?_)
      replace H := out_some H
      obtain ⟨_, H, he1⟩ := H
      have he := (hout1 _ he1).symm
      subst he
      replace H := Option.some.inj H
      subst H
      exact gr Try.func12 ⟨A384, c385, rfl, Inv.lentOr (lendsAsk _) (hb47 _ _ (hI.pk [1]))⟩
theorem enter13 (a : Array Value) : Sem.pureRun Try.prog (callFunc 13 a) = some (.enter 13 a) := by kernel_rfl
theorem assizeref09zSameAsks_calls (A0z : Option Addr) (c0z : Nat) (a0 : List Ask) (A1z : Option Addr) (c1z : Nat) (a1 : List Ask) (M : Mem) (w : World) (hI : Inv M w []) (hr0z : rdS kAsk M.blk A0z a0) (hl0z : a0.length ≤ c0z) (hr1z : rdS kAsk M.blk A1z a1) (hl1z : a1.length ≤ c1z) (r : Bool) (H : assizeref09zSameAsks a0 a1 = some r) :
    Calls Try.prog 13 #[vS A0z a0.length c0z, vS A1z a1.length c1z] w fun e w' => e = .returned (vB r) ∧ Inv M w' [] := by
  refine cg Try.func13 ?_
  intro cs
  unfold assizeref09zSameAsks at H
  refine go_seq (rp 1 (go_seq (go_seq (rp 5 ?_))))
  replace H := cond_some H
  rcases H with ⟨hc2, H⟩ | ⟨hc2, H⟩
  · refine gt hc2 (go_seq (rp 1 ?_))
    replace H := Option.some.inj H
    subst H
    exact gr Try.func13 ⟨rfl, hI⟩
  · refine ge hc2 (go_skip (go_seq (go_seq (rp 1 (go_block ?_)))))
    refine go_iter (assizeref09zSameAsks.s1 a0 a1) (fun x580 f w => ∃ (j : Nat → Value), f = updL j [(0, vS A0z a0.length c0z), (1, vS A1z a1.length c1z), (5, vI x580)] ∧ Inv M w []) H ⟨_, at_, hI⟩ ?_
    clear H hI
    rintro x580 _ _ o1 H ⟨_, rfl, hI⟩ hin1 hout1
    refine go_seq (go_seq (rp 4 ?_))
    replace H := cond_some H
    rcases H with ⟨hc582, H⟩ | ⟨hc582, H⟩
    · refine gt hc582 (go_skip (go_seq (go_block ?_)))
      refine go_seq_join (o := o1) (fun b788 f w => ∃ (j : Nat → Value), f = updL j [(0, vS A0z a0.length c0z), (1, vS A1z a1.length c1z), (5, vI x580), (67, vB b788)] ∧ Inv M w []) (fun b788 => assizeref09zSameAsks.j2 x580 b788) ?_ (fun hJ789 => ?_)
      · clear H hI
        rintro b788 _ _ ⟨_, rfl, hI⟩ H
        replace H := cond_some H
        rcases H with ⟨hc790, H⟩ | ⟨hc790, H⟩
        · refine gt hc790 (go_seq (rp 1 ?_))
          replace H := out_some H
          obtain ⟨_, H, he1⟩ := H
          have he := (hout1 _ he1).symm
          subst he
          replace H := Option.some.inj H
          subst H
          exact gr Try.func13 ⟨rfl, hI⟩
        · refine ge hc790 (go_skip (go_inBlock (rp 3 ?_)))
          exact hin1 _ (Option.some.inj H).symm _ _ ⟨_, at_, hI⟩
      · replace H := must_some H
        obtain ⟨g791, H⟩ := H
        obtain ⟨b795, q796, rfl, cs794, hk793, hg792⟩ := rdS.open hr0z rfl g791
        obtain ⟨_, _, rfl, rfl, ⟨_, _, rfl, rfl, ⟨_, _, rfl, rfl, ⟨A797, c798, rfl, hl800, hr799⟩⟩⟩⟩ := hk793
        replace H := must_some H
        obtain ⟨g801, H⟩ := H
        obtain ⟨b805, q806, rfl, cs804, hk803, hg802⟩ := rdS.open hr1z rfl g801
        obtain ⟨_, _, rfl, rfl, ⟨_, _, rfl, rfl, ⟨_, _, rfl, rfl, ⟨A807, c808, rfl, hl810, hr809⟩⟩⟩⟩ := hk803
        replace H := cond_some H
        rcases H with ⟨hc811, H⟩ | ⟨hc811, H⟩
        · refine dx [.p, .p, .x, .p, .l 0 0, .p, .p, .x, .p, .l 1 0, .p, .c true, .p, .p, .p, .p, .p, .p, .p, .p, .p, .p, .p, .p, .p, .p, .p, .p, .p, .p, .p, .p, .p, .p, .p, .p, .p, .p, .p, .p, .p, .p, .p, .p, .p, .p, .p, .p, .p, .p, .p] (gB (hI.lies hg792) (hI.lies hg802)) _ (bC g791 (bC g801 (bZ (bndEq hc811)))) hI ?_
          clear hI
          intro _ hI
          exact hJ789 true _ _ ⟨_, at_, hI⟩ H
        · obtain ⟨cs814, hk813, hg812⟩ := rdS.look hr0z rfl g791
          obtain ⟨_, _, rfl, rfl, ⟨_, _, rfl, rfl, ⟨_, _, rfl, rfl, ⟨A815, c816, rfl, hl818, hr817⟩⟩⟩⟩ := hk813
          obtain ⟨cs821, hk820, hg819⟩ := rdS.look hr1z rfl g801
          obtain ⟨_, _, rfl, rfl, ⟨_, _, rfl, rfl, ⟨_, _, rfl, rfl, ⟨A822, c823, rfl, hl825, hr824⟩⟩⟩⟩ := hk820
          replace H := cond_some H
          rcases H with ⟨hc826, H⟩ | ⟨hc826, H⟩
          · refine dx [.p, .p, .x, .p, .l 0 0, .p, .p, .x, .p, .l 1 0, .p, .c false, .p, .p, .x, .p, .l 2 1, .p, .p, .x, .p, .l 3 1, .p, .p, .c true, .p, .p, .p, .p, .p, .p, .p, .p, .p, .p, .p, .p, .p, .p, .p, .p, .p, .p, .p, .p, .p, .p, .p, .p, .p, .p] (gD (hI.lies hg792) (hI.lies hg802) (hI.lies hg812) (hI.lies hg819)) _ (bC g791 (bC g801 (bC (bndEq hc811) (bC g791 (bC g801 (bZ (bndEq hc826))))))) hI ?_
            clear hI
            intro _ hI
            exact hJ789 true _ _ ⟨_, at_, hI⟩ H
          · obtain ⟨cs829, hk828, hg827⟩ := rdS.look hr0z rfl g791
            obtain ⟨_, _, rfl, rfl, ⟨_, _, rfl, rfl, ⟨_, _, rfl, rfl, ⟨A830, c831, rfl, hl833, hr832⟩⟩⟩⟩ := hk828
            obtain ⟨cs836, hk835, hg834⟩ := rdS.look hr1z rfl g801
            obtain ⟨_, _, rfl, rfl, ⟨_, _, rfl, rfl, ⟨_, _, rfl, rfl, ⟨A837, c838, rfl, hl840, hr839⟩⟩⟩⟩ := hk835
            replace H := cond_some H
            rcases H with ⟨hc841, H⟩ | ⟨hc841, H⟩
            · refine dx [.p, .p, .x, .p, .l 0 0, .p, .p, .x, .p, .l 1 0, .p, .c false, .p, .p, .x, .p, .l 2 1, .p, .p, .x, .p, .l 3 1, .p, .p, .c false, .p, .p, .x, .p, .l 4 2, .p, .p, .x, .p, .l 5 2, .p, .p, .c true, .p, .p, .p, .p, .p, .p, .p, .p, .p, .p, .p, .p, .p] (gK (hI.lies hg792) (gK (hI.lies hg802) (gD (hI.lies hg812) (hI.lies hg819) (hI.lies hg827) (hI.lies hg834)))) _ (bC g791 (bC g801 (bC (bndEq hc811) (bC g791 (bC g801 (bC (bndEq hc826) (bC g791 (bC g801 (bZ (bndEq hc841)))))))))) hI ?_
              clear hI
              intro _ hI
              exact hJ789 true _ _ ⟨_, at_, hI⟩ H
            · obtain ⟨cs844, hk843, hg842⟩ := rdS.look hr0z rfl g791
              obtain ⟨_, _, rfl, rfl, ⟨_, _, rfl, rfl, ⟨_, _, rfl, rfl, ⟨A845, c846, rfl, hl848, hr847⟩⟩⟩⟩ := hk843
              obtain ⟨cs851, hk850, hg849⟩ := rdS.look hr1z rfl g801
              obtain ⟨_, _, rfl, rfl, ⟨_, _, rfl, rfl, ⟨_, _, rfl, rfl, ⟨A852, c853, rfl, hl855, hr854⟩⟩⟩⟩ := hk850
              replace H := bind_some H
              obtain ⟨y856, hy857, H⟩ := H
              refine go_held (fun w => Inv M w []) (by kernel_rfl) ?_
              replace hI := hI.drew'
              refine hx (n := 3) [(0, .p), (1, .p), (2, .x), (3, .p), (4, .l 0 0), (5, .p), (6, .p), (7, .x), (8, .p), (9, .l 1 0), (10, .p), (11, .c false), (12, .p), (13, .p), (14, .x), (15, .p), (16, .l 2 1), (17, .p), (18, .p), (19, .x), (20, .p), (21, .l 3 1), (22, .p), (23, .p), (24, .c false), (25, .p), (26, .p), (27, .x), (28, .p), (29, .l 4 2), (30, .p), (31, .p), (32, .x), (33, .p), (34, .l 5 2), (35, .p), (36, .p), (37, .c false), (38, .p), (39, .p), (40, .x), (41, .p), (42, .l 6 3), (43, .p), (44, .p), (45, .x), (46, .p), (47, .l 7 3)] (fun _ hS => (gK (hS.lies hg792) (gK (hS.lies hg802) (gK (hS.lies hg812) (gK (hS.lies hg819) (gD (hS.lies hg827) (hS.lies hg834) (hS.lies hg842) (hS.lies hg849))))))) hI _ (bC g791 (bC g801 (bC (bndEq hc811) (bC g791 (bC g801 (bC (bndEq hc826) (bC g791 (bC g801 (bC (bndEq hc841) (bC g791 (bZ g801))))))))))) ?_
              refine ho (n := 2) 48 rfl (ec (enter24 _) (assizeref03zSameVals_calls A845 c846 ((idx a0 x580).Base) A852 c853 ((idx a1 x580).Base) (memOf _) _ (Inv.start _) (hI.rd hr847) hl848 (hI.rd hr854) hl855 _ hy857) ?_)
              rintro _ _ ⟨rfl, hI'⟩
              replace hI := hI.call0 hI'
              clear hI'
              refine ⟨_, rfl, ?_⟩
              refine ⟨hI, ?_⟩
              refine hg (n := 0) [(49, .p), (50, .p)] (fun _ hS => gO) hI (hd ?_)
              exact hJ789 (!y856) _ _ ⟨_, at_, hI⟩ H
    · refine ge hc582 ?_
      refine go_exit rfl ?_
      refine go_seq (rp 1 ?_)
      replace H := out_some H
      obtain ⟨_, H, he1⟩ := H
      have he := (hout1 _ he1).symm
      subst he
      replace H := Option.some.inj H
      subst H
      exact gr Try.func13 ⟨rfl, hI⟩
theorem assizelaw10zSourceEmpty_calls (a0 : History) (A0z0 : Option Addr) (c0z0 : Nat) (A0z1 : Option Addr) (c0z1 : Nat) (M : Mem) (w : World) (hI : Inv M w []) (hr0z0 : rdS tStr M.blk A0z0 a0.Keys) (hl0z0 : a0.Keys.length ≤ c0z0) (hr0z1 : rdS kTxn M.blk A0z1 a0.Txns) (hl0z1 : a0.Txns.length ≤ c0z1) (r : Bool) (H : assizelaw10zSourceEmpty a0 = some r) :
    Calls Try.prog 3 #[.agg #[vS A0z0 a0.Keys.length c0z0, vS A0z1 a0.Txns.length c0z1]] w fun e w' => e = .returned (vB r) ∧ Inv M w' [] := by
  refine cg Try.func3 ?_
  intro cs
  unfold assizelaw10zSourceEmpty at H
  refine go_seq (r_in (oe 0 rfl ?_))
  refine e_box 25 _ (.agg #[vS A0z0 a0.Keys.length c0z0, vS A0z1 a0.Txns.length c0z1]) [vS A0z0 a0.Keys.length c0z0, vS A0z1 a0.Txns.length c0z1] rfl (by kernel_rfl) rfl hI ?_
  clear hI
  intro b2 _ hI
  refine bp 1 1 (ro (go_seq (go_seq (r_in ?_))))
  replace H := bind_some H
  obtain ⟨y8, hy9, H⟩ := H
  refine oe 0 rfl ?_
  refine ec (enter10 _) (assizelaw10zalive_calls (memOf _) _ (Inv.start _) _ hy9) ?_
  rintro _ _ ⟨rfl, hI'⟩
  replace hI := hI.call0 hI'
  clear hI'
  refine ⟨_, rfl, ?_⟩
  refine bp 1 1 (ro ?_)
  replace H := cond_some H
  rcases H with ⟨hc10, H⟩ | ⟨hc10, H⟩
  · refine gt hc10 (go_seq (rp 1 ?_))
    replace H := Option.some.inj H
    subst H
    exact gr Try.func3 ⟨rfl, hI.pn⟩
  · refine ge hc10 (go_skip (go_seq (r_in (bg 0 [.l 0 0] (gA (hI.grp 0 rfl)) ?_))))
    replace H := bind_some H
    obtain ⟨y24, hy25, H⟩ := H
    refine oe 1 rfl ?_
    refine ec (enter11 _) (source_Empty_calls a0 A0z0 c0z0 A0z1 c0z1 (memOf _) _ (Inv.start _) (hI.rd hr0z0) hl0z0 (hI.rd hr0z1) hl0z1 _ hy25) ?_
    rintro _ _ ⟨A26, c27, rfl, hI'⟩
    replace hI := hI.call0 hI'
    clear hI'
    refine ⟨_, rfl, ?_⟩
    refine bp 2 5 (ro ?_)
    obtain ⟨M28, F29, hs30, hb31, ho32, hI'⟩ := hI.lend 1 rfl
    clear hI
    have hI := hI'.pick (L' := [.blk b2 25 [vS A0z0 a0.Keys.length c0z0, vS A0z1 a0.Txns.length c0z1]]) [0] (by decide) rfl
    clear hI'
    have hr33 := rowOwn.rd ho32.1
    have hl34 := rowOwn.le ho32.1
    have hf35 := rdS.mono hr0z0 hs30
    have hf36 := rdS.mono hr0z1 hs30
    refine go_seq (r_in (bg 0 [.l 0 0] (gA (hI.grp 0 rfl)) ?_))
    replace H := bind_some H
    obtain ⟨y41, hy42, H⟩ := H
    refine oe 1 rfl ?_
    refine ec (enter12 _) (assizeref10zEmpty_calls a0 A0z0 c0z0 A0z1 c0z1 (memOf _) _ (Inv.start _) (hI.rd hf35) hl0z0 (hI.rd hf36) hl0z1 _ hy42) ?_
    rintro _ _ ⟨A43, c44, rfl, hI'⟩
    replace hI := hI.call0 hI'
    clear hI'
    refine ⟨_, rfl, ?_⟩
    refine bp 2 5 (ro (go_seq ?_))
    refine go_seq_join (o := r) (fun b53 f w => ∃ (j : Nat → Value), f = updL j [(1, vP b2 0), (3, vS A26 y24.1.length c27), (30, vB b53)] ∧ Inv M28 w [.blk b2 25 [vS A0z0 a0.Keys.length c0z0, vS A0z1 a0.Txns.length c0z1]]) (fun b53 => assizelaw10zSourceEmpty.j1 a0 y24 b53) ?_ (fun hJ54 => ?_)
    · clear H hI
      rintro b53 _ _ ⟨_, rfl, hI⟩ H
      replace H := cond_some H
      rcases H with ⟨hc55, H⟩ | ⟨hc55, H⟩
      · refine gt hc55 (go_seq (rp 1 ?_))
        replace H := Option.some.inj H
        subst H
        exact gr Try.func3 ⟨rfl, Inv.tail (hb31 _ _ (hI.pn))⟩
      · refine ge hc55 (go_skip (go_seq (go_seq (rp 1 (go_block ?_)))))
        refine go_iter (assizelaw10zSourceEmpty.s2 a0 y24) (fun x217 f w => ∃ (j : Nat → Value), f = updL j [(1, vP b2 0), (3, vS A26 y24.1.length c27), (7, vI x217)] ∧ Inv M28 w [.blk b2 25 [vS A0z0 a0.Keys.length c0z0, vS A0z1 a0.Txns.length c0z1]]) H ⟨_, at_, hI⟩ ?_
        clear H hI
        rintro x217 _ _ o1 H ⟨_, rfl, hI⟩ hin1 hout1
        refine go_seq (go_seq (rp 4 ?_))
        replace H := cond_some H
        rcases H with ⟨hc219, H⟩ | ⟨hc219, H⟩
        · refine gt hc219 (go_skip (go_seq (go_block (go_seq ?_))))
          replace H := must_some H
          obtain ⟨g268, H⟩ := H
          obtain ⟨b272, q273, rfl, cs271, hk270, hg269⟩ := rdS.open hr33 rfl g268
          obtain ⟨_, _, rfl, rfl, ⟨_, _, rfl, rfl, ⟨_, _, rfl, rfl, ⟨A274, c275, rfl, hl277, hr276⟩⟩⟩⟩ := hk270
          replace H := bind_some H
          obtain ⟨y278, hy279, H⟩ := H
          refine go_held (fun w => Inv M28 w [.blk b2 25 [vS A0z0 a0.Keys.length c0z0, vS A0z1 a0.Txns.length c0z1]]) (by kernel_rfl) ?_
          replace hI := hI.drew'
          refine hx (n := 6) [(0, .l 0 0), (1, .p), (2, .p), (3, .x), (4, .l 1 0)] (fun _ hS => (gB (hS.grp 0 rfl) (hS.lies hg269))) hI _ (bZ g268) ?_
          refine ho (n := 5) 5 rfl (ec (enter14 _) (source_Sources_calls a0 A0z0 c0z0 A0z1 c0z1 (idx y24.1 x217) A274 c275 (memOf _) _ (Inv.start _) (hI.rd hf35) hl0z0 (hI.rd hf36) hl0z1 (hI.rd hr276) hl277 _ hy279) ?_)
          rintro _ _ ⟨A280, c281, rfl, hI'⟩
          replace hI := hI.call0 hI'
          clear hI'
          refine ⟨_, rfl, ?_⟩
          refine ⟨(hI.pk [0]), ?_⟩
          refine hg (n := 0) [(6, .p), (7, .p), (8, .p), (9, .p), (10, .p)] (fun _ hS => gO) (hI.pk [0]) (hd ?_)
          refine go_seq_join (o := o1) (fun b283 f w => ∃ (j : Nat → Value), f = updL j [(1, vP b2 0), (3, vS (some ⟨b272, q273, none⟩) y24.1.length c27), (7, vI x217), (52, vB b283)] ∧ Inv M28 w [.blk b2 25 [vS A0z0 a0.Keys.length c0z0, vS A0z1 a0.Txns.length c0z1]]) (fun b283 => assizelaw10zSourceEmpty.j3 x217 b283) ?_ (fun hJ284 => ?_)
          · clear H hI
            rintro b283 _ _ ⟨_, rfl, hI⟩ H
            replace H := cond_some H
            rcases H with ⟨hc285, H⟩ | ⟨hc285, H⟩
            · refine gt hc285 (go_seq (rp 1 ?_))
              replace H := out_some H
              obtain ⟨_, H, he1⟩ := H
              have he := (hout1 _ he1).symm
              subst he
              replace H := Option.some.inj H
              subst H
              exact gr Try.func3 ⟨rfl, Inv.tail (hb31 _ _ (hI.pn))⟩
            · refine ge hc285 (go_skip (go_inBlock (rp 3 ?_)))
              exact hin1 _ (Option.some.inj H).symm _ _ ⟨_, at_, hI⟩
          · refine r_in ?_
            replace H := cond_some H
            rcases H with ⟨hc286, H⟩ | ⟨hc286, H⟩
            · refine bx 0 [.p, .p, .c true, .p, .p, .p, .p] gO _ (bZ (bndEq hc286)) (ro ?_)
              exact hJ284 true _ _ ⟨_, at_, hI.pick [0] (by decide) rfl⟩ H
            · refine bx 0 [.p, .p, .c false, .p, .p, .p, .p] gO _ (bZ (bndEq hc286)) (ro ?_)
              exact hJ284 ((y278.1.length : Int) != 0) _ _ ⟨_, at_, hI.pick [0] (by decide) rfl⟩ H
        · refine ge hc219 ?_
          refine go_exit rfl ?_
          refine go_seq (rp 1 ?_)
          replace H := out_some H
          obtain ⟨_, H, he1⟩ := H
          have he := (hout1 _ he1).symm
          subst he
          replace H := Option.some.inj H
          subst H
          exact gr Try.func3 ⟨rfl, Inv.tail (hb31 _ _ (hI.pn))⟩
    · refine r_in ?_
      replace H := cond_some H
      rcases H with ⟨hc287, H⟩ | ⟨hc287, H⟩
      · refine bx 0 [.p, .p, .p, .c true, .p, .p, .p, .p, .p] gO _ (bZ (bndEq hc287)) (ro ?_)
        exact hJ54 true _ _ ⟨_, at_, hI.pick [0] (by decide) rfl⟩ H
      · refine bx 0 [.p, .p, .p, .c false, .p, .p] gO _ (bZ (bndEq hc287)) ?_
        replace H := bind_some H
        obtain ⟨y288, hy289, H⟩ := H
        refine oe 6 rfl ?_
        refine ec (enter13 _) (assizeref09zSameAsks_calls A26 c27 y24.1 A43 c44 y41.1 (memOf _) _ (Inv.start _) (hI.rd hr33) hl34 (hI.orrd 1 noM_sub rfl) (hI.orle 1 rfl) _ hy289) ?_
        rintro _ _ ⟨rfl, hI'⟩
        replace hI := hI.call0 hI'
        clear hI'
        refine ⟨_, rfl, ?_⟩
        refine bp 7 2 (ro ?_)
        exact hJ54 (!y288) _ _ ⟨_, at_, hI.pick [0] (by decide) rfl⟩ H
end Go.Proofs.YtnlkggppokcmfaaT
