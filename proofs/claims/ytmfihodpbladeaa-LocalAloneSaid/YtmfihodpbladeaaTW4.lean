/- The walks, part 4: each call computes its plain function. -/
import Derived.Test.YtmfihodpbladeaaTW3
import Derived.Test.YtmfihodpbladeaaProg
namespace Go.Proofs.YtmfihodpbladeaaT
open Go Go.Proofs Go.Proofs.YtmfihodpbladeaaE
set_option linter.unusedVariables false
set_option linter.unusedSimpArgs false
set_option maxHeartbeats 0
set_option maxRecDepth 4096
/-! ### assizeref09zBad -/
theorem enter36 (a : Array Value) : Sem.pureRun Try.prog (callFunc 36 a) = some (.enter 36 a) := by kernel_rfl
theorem assizeref09zBad_calls (a0 : History) (A0z0 : Option Addr) (c0z0 : Nat) (A0z1 : Option Addr) (c0z1 : Nat) (M : Mem) (w : World) (hI : Inv M w []) (hr0z0 : rdS tStr M.blk A0z0 a0.Keys) (hl0z0 : a0.Keys.length ≤ c0z0) (hr0z1 : rdS kTxn M.blk A0z1 a0.Txns) (hl0z1 : a0.Txns.length ≤ c0z1) (r : List Spot × Int) (H : assizeref09zBad a0 = some r) :
    Calls Try.prog 36 #[.agg #[vS A0z0 a0.Keys.length c0z0, vS A0z1 a0.Txns.length c0z1]] w fun e w' => ∃ (A24 : Option Addr), ∃ (c25 : Nat), e = .returned (.tuple #[vS A24 r.1.length c25, vI r.2]) ∧ Inv M w' [.row kSpot 53 A24 r.1.length c25 r.1] := by
  refine cg Try.func36 ?_
  intro cs
  unfold assizeref09zBad at H
  refine go_seq (r_in (oe 0 rfl ?_))
  refine e_box 40 _ (.agg #[vS A0z0 a0.Keys.length c0z0, vS A0z1 a0.Txns.length c0z1]) [vS A0z0 a0.Keys.length c0z0, vS A0z1 a0.Txns.length c0z1] rfl (by kernel_rfl) rfl hI ?_
  clear hI
  intro b2 _ hI
  refine bp 1 2 (ro (go_seq (go_seq (r_in (bg 0 [.l 0 0] (gA (hI.grp 0 rfl)) ?_)))))
  replace H := bind_some H
  obtain ⟨y8, hy9, H⟩ := H
  refine oe 1 rfl ?_
  refine ec (enter43 _) (assizeref05zCheck_calls a0 A0z0 c0z0 A0z1 c0z1 (memOf _) _ (Inv.start _) (hI.rd hr0z0) hl0z0 (hI.rd hr0z1) hl0z1 _ hy9) ?_
  rintro _ _ ⟨rfl, hI'⟩
  replace hI := hI.call0 hI'
  clear hI'
  refine ⟨_, rfl, ?_⟩
  refine bp 2 1 (ro ?_)
  replace H := cond_some H
  rcases H with ⟨hc10, H⟩ | ⟨hc10, H⟩
  · refine gt hc10 (go_seq (rp 2 ?_))
    replace H := Option.some.inj H
    subst H
    exact gr Try.func36 ⟨none, 0, rfl, (hI.nilrow kSpot 53).pick [1] (by decide) rfl⟩
  · refine ge hc10 (go_skip (go_seq (r_in (bg 0 [.l 0 0] (gA (hI.grp 0 rfl)) ?_))))
    replace H := bind_some H
    obtain ⟨y17, hy18, H⟩ := H
    refine oe 1 rfl ?_
    refine ec (enter46 _) (assizeref09zAll_calls a0 A0z0 c0z0 A0z1 c0z1 (memOf _) _ (Inv.start _) (hI.rd hr0z0) hl0z0 (hI.rd hr0z1) hl0z1 _ hy18) ?_
    rintro _ _ ⟨A19, c20, A21, c22, rfl, hI'⟩
    replace hI := hI.call0 hI'
    clear hI'
    refine ⟨_, rfl, ?_⟩
    refine bp 2 5 (ro (go_seq (rp 3 ?_)))
    replace H := Option.some.inj H
    subst H
    exact gr Try.func36 ⟨A21, c22, rfl, hI.pick [2] (by decide) rfl⟩

/-! ### assizelaw09zLocalAll -/
theorem enter11 (a : Array Value) : Sem.pureRun Try.prog (callFunc 11 a) = some (.enter 11 a) := by kernel_rfl
theorem assizelaw09zLocalAll_calls (a0 : History) (A0z0 : Option Addr) (c0z0 : Nat) (A0z1 : Option Addr) (c0z1 : Nat) (M : Mem) (w : World) (hI : Inv M w []) (hr0z0 : rdS tStr M.blk A0z0 a0.Keys) (hl0z0 : a0.Keys.length ≤ c0z0) (hr0z1 : rdS kTxn M.blk A0z1 a0.Txns) (hl0z1 : a0.Txns.length ≤ c0z1) (r : Bool) (H : assizelaw09zLocalAll a0 = some r) :
    Calls Try.prog 11 #[.agg #[vS A0z0 a0.Keys.length c0z0, vS A0z1 a0.Txns.length c0z1]] w fun e w' => e = .returned (vB r) ∧ Inv M w' [] := by
  refine cg Try.func11 ?_
  intro cs
  unfold assizelaw09zLocalAll at H
  refine go_seq (r_in (oe 0 rfl ?_))
  refine e_box 40 _ (.agg #[vS A0z0 a0.Keys.length c0z0, vS A0z1 a0.Txns.length c0z1]) [vS A0z0 a0.Keys.length c0z0, vS A0z1 a0.Txns.length c0z1] rfl (by kernel_rfl) rfl hI ?_
  clear hI
  intro b2 _ hI
  refine bp 1 1 (ro (go_seq (go_seq (r_in ?_))))
  replace H := bind_some H
  obtain ⟨y8, hy9, H⟩ := H
  refine oe 0 rfl ?_
  refine ec (enter26 _) (assizelaw09zalive_calls (memOf _) _ (Inv.start _) _ hy9) ?_
  rintro _ _ ⟨rfl, hI'⟩
  replace hI := hI.call0 hI'
  clear hI'
  refine ⟨_, rfl, ?_⟩
  refine bp 1 1 (ro ?_)
  replace H := cond_some H
  rcases H with ⟨hc10, H⟩ | ⟨hc10, H⟩
  · refine gt hc10 (go_seq (rp 1 ?_))
    replace H := Option.some.inj H
    subst H
    exact gr Try.func11 ⟨rfl, hI.pn⟩
  · refine ge hc10 (go_skip (go_seq (r_in (bg 0 [.l 0 0] (gA (hI.grp 0 rfl)) ?_))))
    replace H := bind_some H
    obtain ⟨y15, hy16, H⟩ := H
    refine oe 1 rfl ?_
    refine ec (enter33 _) (local_Asks_calls a0 A0z0 c0z0 A0z1 c0z1 (memOf _) _ (Inv.start _) (hI.rd hr0z0) hl0z0 (hI.rd hr0z1) hl0z1 _ hy16) ?_
    rintro _ _ ⟨A17, c18, rfl, hI'⟩
    replace hI := hI.call0 hI'
    clear hI'
    refine ⟨_, rfl, ?_⟩
    refine bp 2 5 (ro (go_seq (r_in (bg 0 [.l 0 0] (gA (hI.grp 0 rfl)) ?_))))
    replace H := bind_some H
    obtain ⟨y23, hy24, H⟩ := H
    refine oe 1 rfl ?_
    refine ec (enter35 _) (local_Bad_calls a0 A0z0 c0z0 A0z1 c0z1 (memOf _) _ (Inv.start _) (hI.rd hr0z0) hl0z0 (hI.rd hr0z1) hl0z1 _ hy24) ?_
    rintro _ _ ⟨A25, c26, rfl, hI'⟩
    replace hI := hI.call0 hI'
    clear hI'
    refine ⟨_, rfl, ?_⟩
    refine bp 2 5 (ro (go_seq (r_in (bg 0 [.l 0 0] (gA (hI.grp 0 rfl)) ?_))))
    replace H := bind_some H
    obtain ⟨y31, hy32, H⟩ := H
    refine oe 1 rfl ?_
    refine ec (enter34 _) (assizeref09zAsks_calls a0 A0z0 c0z0 A0z1 c0z1 (memOf _) _ (Inv.start _) (hI.rd hr0z0) hl0z0 (hI.rd hr0z1) hl0z1 _ hy32) ?_
    rintro _ _ ⟨A33, c34, rfl, hI'⟩
    replace hI := hI.call0 hI'
    clear hI'
    refine ⟨_, rfl, ?_⟩
    refine bp 2 5 (ro (go_seq (r_in (bg 0 [.l 0 0] (gA (hI.grp 0 rfl)) ?_))))
    replace H := bind_some H
    obtain ⟨y39, hy40, H⟩ := H
    refine oe 1 rfl ?_
    refine ec (enter36 _) (assizeref09zBad_calls a0 A0z0 c0z0 A0z1 c0z1 (memOf _) _ (Inv.start _) (hI.rd hr0z0) hl0z0 (hI.rd hr0z1) hl0z1 _ hy40) ?_
    rintro _ _ ⟨A41, c42, rfl, hI'⟩
    replace hI := hI.call0 hI'
    clear hI'
    refine ⟨_, rfl, ?_⟩
    refine bp 2 5 (ro (go_seq ?_))
    refine go_seq_join (o := r) (fun b59 f w => ∃ (j : Nat → Value), f = updL j [(1, vP b2 0), (3, vS A17 y15.1.length c18), (4, vI y15.2), (5, vS A25 y23.1.length c26), (58, vB b59)] ∧ Inv M w [.blk b2 40 [vS A0z0 a0.Keys.length c0z0, vS A0z1 a0.Txns.length c0z1], .row kAsk 51 A17 y15.1.length c18 y15.1, .row kSpot 53 A25 y23.1.length c26 y23.1]) (fun b59 => assizelaw09zLocalAll.j1 a0 y15 y23 b59) ?_ (fun hJ60 => ?_)
    · clear H hI
      rintro b59 _ _ ⟨_, rfl, hI⟩ H
      replace H := cond_some H
      rcases H with ⟨hc61, H⟩ | ⟨hc61, H⟩
      · refine gt hc61 (go_seq (rp 1 ?_))
        replace H := Option.some.inj H
        subst H
        exact gr Try.func11 ⟨rfl, hI.pn⟩
      · refine ge hc61 (go_skip (go_seq (rp 1 (go_seq (rp 1 (go_seq (go_seq (rp 1 (go_block ?_)))))))))
        refine go_iter (assizelaw09zLocalAll.s2 a0 y15 y23) (fun (l309, l312, x315) f w => ∃ (j : Nat → Value) (A310 : Option Addr) (c311 : Nat) (A313 : Option Addr) (c314 : Nat), f = updL j [(1, vP b2 0), (3, vS A17 y15.1.length c18), (4, vI y15.2), (5, vS A25 y23.1.length c26), (11, vS A310 l309.length c311), (12, vS A313 l312.length c314), (13, vI x315)] ∧ Inv M w [.blk b2 40 [vS A0z0 a0.Keys.length c0z0, vS A0z1 a0.Txns.length c0z1], .row kAsk 51 A17 y15.1.length c18 y15.1, .row kSpot 53 A25 y23.1.length c26 y23.1, .row kAsk 51 A310 l309.length c311 l309, .row kSpot 53 A313 l312.length c314 l312]) H ⟨_, none, 0, none, 0, at_, ((hI.nilrow kAsk 51).nilrow kSpot 53)⟩ ?_
        clear H hI
        rintro ⟨l309, l312, x315⟩ _ _ o1 H ⟨_, A310, c311, A313, c314, rfl, hI⟩ hin1 hout1
        refine go_seq ?_
        refine go_seq_join (o := o1) (fun b320 f w => ∃ (j : Nat → Value), f = updL j [(1, vP b2 0), (3, vS A17 y15.1.length c18), (4, vI y15.2), (5, vS A25 y23.1.length c26), (11, vS A310 l309.length c311), (12, vS A313 l312.length c314), (13, vI x315), (67, vB b320)] ∧ Inv M w [.blk b2 40 [vS A0z0 a0.Keys.length c0z0, vS A0z1 a0.Txns.length c0z1], .row kAsk 51 A17 y15.1.length c18 y15.1, .row kSpot 53 A25 y23.1.length c26 y23.1, .row kAsk 51 A310 l309.length c311 l309, .row kSpot 53 A313 l312.length c314 l312]) (fun b320 => assizelaw09zLocalAll.j3 a0 y15 y23 l309 l312 x315 b320) ?_ (fun hJ321 => ?_)
        · clear H hI
          rintro b320 _ _ ⟨_, rfl, hI⟩ H
          replace H := cond_some H
          rcases H with ⟨hc322, H⟩ | ⟨hc322, H⟩
          · refine gt hc322 (go_skip (go_seq (go_block (go_seq (r_in (bg 0 [.l 0 0, .p] (gA (hI.grp 0 rfl)) ?_))))))
            replace H := bind_some H
            obtain ⟨y355, hy356, H⟩ := H
            refine oe 2 rfl ?_
            refine ec (enter28 _) (local_Look_calls a0 A0z0 c0z0 A0z1 c0z1 x315 (memOf _) _ (Inv.start _) (hI.rd hr0z0) hl0z0 (hI.rd hr0z1) hl0z1 _ hy356) ?_
            rintro _ _ ⟨A357, c358, A359, c360, rfl, hI'⟩
            replace hI := hI.call0 hI'
            clear hI'
            refine ⟨_, rfl, ?_⟩
            refine bp 3 7 (ro (go_seq (go_seq (rp 2 ?_))))
            replace H := cond_some H
            rcases H with ⟨hc362, H⟩ | ⟨hc362, H⟩
            · refine gt hc362 (go_seq (rp 1 ?_))
              replace H := out_some H
              obtain ⟨_, H, he1⟩ := H
              have he := (hout1 _ he1).symm
              subst he
              replace H := Option.some.inj H
              subst H
              exact gr Try.func11 ⟨rfl, hI.pn⟩
            · refine ge hc362 (go_skip (go_seq (r_in (bp 0 2 ?_))))
              replace H := must_some H
              obtain ⟨g366, H⟩ := H
              refine oe 2 rfl ?_
              refine e_append_move kAsk 42 0 51 _ _ _ _ A310 A357 l309.length c311 y355.1.length c358 l309 y355.1 3 5 [0, 1, 2, 4, 6] [.blk b2 40 [vS A0z0 a0.Keys.length c0z0, vS A0z1 a0.Txns.length c0z1], .row kAsk 51 A17 y15.1.length c18 y15.1, .row kSpot 53 A25 y23.1.length c26 y23.1, .row kSpot 53 A313 l312.length c314 l312, .row kSpot 53 A359 y355.2.1.length c360 y355.2.1] rfl (by kernel_rfl) (by kernel_rfl) rfl rfl rfl rfl rfl (by kernel_rfl) hI (by decide) rfl g366 ?_
              clear hI
              intro A367 c368 _ hI
              refine bp 3 1 (ro (r_in (bp 0 2 ?_)))
              replace H := must_some H
              obtain ⟨g369, H⟩ := H
              refine oe 2 rfl ?_
              refine e_append_rd (kt := kSpot) 43 0 53 _ _ _ _ A313 A359 l312.length c314 l312 y355.2.1 c360 4 [0, 1, 2, 3, 5] [.row kAsk 51 A367 ((l309 ++ y355.1).length) c368 (l309 ++ y355.1), .blk b2 40 [vS A0z0 a0.Keys.length c0z0, vS A0z1 a0.Txns.length c0z1], .row kAsk 51 A17 y15.1.length c18 y15.1, .row kSpot 53 A25 y23.1.length c26 y23.1, .row kSpot 53 A359 y355.2.1.length c360 y355.2.1] rfl (by kernel_rfl) (by kernel_rfl) rfl rfl rfl rfl rfl (by kernel_rfl) hI (by decide) rfl (hI.row 5 rfl) g369 ?_
              clear hI
              intro A370 c371 _ hI
              refine bp 3 1 (ro (go_inBlock (rp 3 ?_)))
              exact hin1 _ (Option.some.inj H).symm _ _ ⟨_, A367, c368, A370, c371, at_, hI.pick [2, 3, 4, 1, 0] (by decide) rfl⟩
          · refine ge hc322 ?_
            refine go_exit rfl ?_
            refine go_seq (r_in (bp 0 2 ?_))
            replace H := bind_some H
            obtain ⟨y377, hy378, H⟩ := H
            refine oe 2 rfl ?_
            refine ec (enter30 _) (assizeref09zSameAsks_calls A310 c311 l309 A17 c18 y15.1 (memOf _) _ (Inv.start _) (hI.row 3 rfl) (hI.rowle 3 rfl) (hI.row 1 rfl) (hI.rowle 1 rfl) _ hy378) ?_
            rintro _ _ ⟨rfl, hI'⟩
            replace hI := hI.call0 hI'
            clear hI'
            refine ⟨_, rfl, ?_⟩
            replace H := cond_some H
            rcases H with ⟨hc379, H⟩ | ⟨hc379, H⟩
            · refine bx 3 [.c true, .p, .p] gO _ (bZ (bndEq hc379)) ?_
              replace H := bind_some H
              obtain ⟨y380, hy381, H⟩ := H
              refine oe 6 rfl ?_
              refine ec (enter31 _) (assizeref09zSameSpots_calls A313 c314 l312 A25 c26 y23.1 (memOf _) _ (Inv.start _) (hI.row 4 rfl) (hI.rowle 4 rfl) (hI.row 2 rfl) (hI.rowle 2 rfl) _ hy381) ?_
              rintro _ _ ⟨rfl, hI'⟩
              replace hI := hI.call0 hI'
              clear hI'
              refine ⟨_, rfl, ?_⟩
              refine bp 7 2 (ro ?_)
              replace H := out_some H
              obtain ⟨_, H, he1⟩ := H
              have he := (hout1 _ he1).symm
              subst he
              replace H := Option.some.inj H
              subst H
              exact gr Try.func11 ⟨rfl, hI.pn⟩
            · refine bx 3 [.c false, .p, .p, .p, .p, .p] gO _ (bZ (bndEq hc379)) (ro ?_)
              replace H := out_some H
              obtain ⟨_, H, he1⟩ := H
              have he := (hout1 _ he1).symm
              subst he
              replace H := Option.some.inj H
              subst H
              exact gr Try.func11 ⟨rfl, hI.pn⟩
        · refine r_in ?_
          replace H := cond_some H
          rcases H with ⟨hc382, H⟩ | ⟨hc382, H⟩
          · refine bx 0 [.p, .p, .l 0 1, .p, .p, .c true, .p, .p, .p] (gA (hI.grp 0 rfl)) _ (bZ (bndEq hc382)) (ro ?_)
            exact hJ321 (y15.2 == 0) _ _ ⟨_, at_, hI⟩ H
          · refine bx 0 [.p, .p, .l 0 1, .p, .p, .c false, .p, .p, .p] (gA (hI.grp 0 rfl)) _ (bZ (bndEq hc382)) (ro ?_)
            exact hJ321 false _ _ ⟨_, at_, hI⟩ H
    · refine r_in ?_
      replace H := cond_some H
      rcases H with ⟨hc383, H⟩ | ⟨hc383, H⟩
      · refine bx 0 [.p, .p, .p, .c true, .p, .p, .p, .p, .p, .p, .p, .p, .p, .p, .p, .p, .p, .p, .p, .p] gO _ (bZ (bndEq hc383)) (ro ?_)
        exact hJ60 true _ _ ⟨_, at_, hI.pick [0, 1, 2] (by decide) rfl⟩ H
      · replace H := cond_some H
        rcases H with ⟨hc384, H⟩ | ⟨hc384, H⟩
        · refine bx 0 [.p, .p, .p, .c false, .p, .p, .p, .p, .c true, .p, .p, .p, .p, .p, .p, .p, .p, .p, .p, .p] gO _ (bC (bndEq hc383) (bZ (bndEq hc384))) (ro ?_)
          exact hJ60 true _ _ ⟨_, at_, hI.pick [0, 1, 2] (by decide) rfl⟩ H
        · refine bx 0 [.p, .p, .p, .c false, .p, .p, .p, .p, .c false, .p, .p] gO _ (bC (bndEq hc383) (bZ (bndEq hc384))) ?_
          replace H := bind_some H
          obtain ⟨y385, hy386, H⟩ := H
          refine oe 11 rfl ?_
          refine ec (enter30 _) (assizeref09zSameAsks_calls A17 c18 y15.1 A33 c34 y31.1 (memOf _) _ (Inv.start _) (hI.row 1 rfl) (hI.rowle 1 rfl) (hI.row 3 rfl) (hI.rowle 3 rfl) _ hy386) ?_
          rintro _ _ ⟨rfl, hI'⟩
          replace hI := hI.call0 hI'
          clear hI'
          refine ⟨_, rfl, ?_⟩
          replace H := cond_some H
          rcases H with ⟨hc387, H⟩ | ⟨hc387, H⟩
          · refine bx 12 [.p, .p, .c true, .p, .p, .p, .p, .p] gO _ (bZ (bndEq hc387)) (ro ?_)
            exact hJ60 true _ _ ⟨_, at_, hI.pick [0, 1, 2] (by decide) rfl⟩ H
          · refine bx 12 [.p, .p, .c false, .p, .p] gO _ (bZ (bndEq hc387)) ?_
            replace H := bind_some H
            obtain ⟨y388, hy389, H⟩ := H
            refine oe 17 rfl ?_
            refine ec (enter31 _) (assizeref09zSameSpots_calls A25 c26 y23.1 A41 c42 y39.1 (memOf _) _ (Inv.start _) (hI.row 2 rfl) (hI.rowle 2 rfl) (hI.row 4 rfl) (hI.rowle 4 rfl) _ hy389) ?_
            rintro _ _ ⟨rfl, hI'⟩
            replace hI := hI.call0 hI'
            clear hI'
            refine ⟨_, rfl, ?_⟩
            refine bp 18 2 (ro ?_)
            exact hJ60 (!y388) _ _ ⟨_, at_, hI.pick [0, 1, 2] (by decide) rfl⟩ H

end Go.Proofs.YtmfihodpbladeaaT
