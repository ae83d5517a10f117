/- The walks, part 2: each call computes its plain function. -/
import Derived.Test.YtnlkggppokcmfaaTW1
import Derived.Test.YtnlkggppokcmfaaProg
namespace Go.Proofs.YtnlkggppokcmfaaT
open Go Go.Proofs Go.Proofs.YtnlkggppokcmfaaE
set_option linter.unusedVariables false
set_option linter.unusedSimpArgs false
set_option maxHeartbeats 0
set_option maxRecDepth 4096
theorem enter88 (a : Array Value) : Sem.pureRun Try.prog (callFunc 88 a) = some (.enter 88 a) := by kernel_rfl
theorem local_found_look_calls (b0z : Nat) (a0 : LocalFound) (A0z0 : Option Addr) (c0z0 : Nat) (A0z1 : Option Addr) (c0z1 : Nat) (a1 : History) (A1z0 : Option Addr) (c1z0 : Nat) (A1z1 : Option Addr) (c1z1 : Nat) (a2 : Int) (M : Mem) (w : World) (hI : Inv M w [.blk b0z 110 [vS A0z0 a0.asks.length c0z0, vS A0z1 a0.bad.length c0z1], .row kAsk 37 A0z0 a0.asks.length c0z0 a0.asks, .row kSpot 160 A0z1 a0.bad.length c0z1 a0.bad]) (hr1z0 : rdS tStr M.blk A1z0 a1.Keys) (hl1z0 : a1.Keys.length ≤ c1z0) (hr1z1 : rdS kTxn M.blk A1z1 a1.Txns) (hl1z1 : a1.Txns.length ≤ c1z1) (r : LocalFound) (H : local_found_look a0 a1 a2 = some r) :
    Calls Try.prog 88 #[vP b0z 0, .agg #[vS A1z0 a1.Keys.length c1z0, vS A1z1 a1.Txns.length c1z1], vI a2] w fun e w' => ∃ (A1197 : Option Addr), ∃ (c1198 : Nat), ∃ (A1199 : Option Addr), ∃ (c1200 : Nat), e = .returned (.tuple #[]) ∧ Inv M w' [.blk b0z 110 [vS A1197 r.asks.length c1198, vS A1199 r.bad.length c1200], .row kAsk 37 A1197 r.asks.length c1198 r.asks, .row kSpot 160 A1199 r.bad.length c1200 r.bad] := by
  refine cg Try.func88 ?_
  intro cs
  unfold local_found_look at H
  refine go_seq (r_in (oe 0 rfl ?_))
  refine e_box 25 _ (.agg #[vS A1z0 a1.Keys.length c1z0, vS A1z1 a1.Txns.length c1z1]) [vS A1z0 a1.Keys.length c1z0, vS A1z1 a1.Txns.length c1z1] rfl (by kernel_rfl) rfl hI ?_
  clear hI
  intro b2 _ hI
  refine ro (go_seq (go_seq (r_in ?_)))
  replace H := must_some H
  obtain ⟨g24, H⟩ := H
  obtain ⟨b28, q29, rfl, cs27, hk26, hg25⟩ := rdS.open hr1z1 rfl g24
  obtain ⟨_, _, rfl, rfl, ⟨_, _, rfl, rfl, ⟨_, _, rfl, rfl, ⟨_, _, rfl, rfl, ⟨A30, c31, rfl, hl33, hr32⟩⟩⟩⟩⟩ := hk26
  refine bx 0 [.p, .l 0 1, .p, .x, .p, .l 1 1, .p] (gB (hI.grp 3 rfl) (hI.lies hg25)) _ (bZ g24) (ro ?_)
  replace H := cond_some H
  rcases H with ⟨hc34, H⟩ | ⟨hc34, H⟩
  · refine gt hc34 ?_
    replace H := Option.some.inj H
    subst H
    exact gr Try.func88 ⟨A0z0, c0z0, A0z1, c0z1, rfl, hI.pick [0, 1, 2] (by decide) rfl⟩
  · refine ge hc34 (go_skip (go_seq (r_in (oe 0 rfl ?_))))
    refine e_makemapO Int (List Int) (fun x : Int => vI x) (tSlice 2 (tInt .i64)) 179 rfl hI ?_
    clear hI
    intro b36 _ hI
    refine bp 1 1 (ro (go_seq (r_in ?_)))
    obtain ⟨cs46, hk45, hg44⟩ := rdS.look hr1z1 rfl g24
    obtain ⟨_, _, rfl, rfl, ⟨_, _, rfl, rfl, ⟨_, _, rfl, rfl, ⟨_, _, rfl, rfl, ⟨A47, c48, rfl, hl50, hr49⟩⟩⟩⟩⟩ := hk45
    refine bx 0 [.p, .l 0 1, .p, .x, .p, .l 1 4, .p, .p] (gB (hI.grp 3 rfl) (hI.lies hg44)) _ (bZ g24) (ro (go_block ?_))
    refine go_iter (local_found_look.s1 a1 a2) (fun (l709, l712, m715, x716) f w => ∃ (j : Nat → Value) (A710 : Option Addr) (c711 : Nat) (A713 : Option Addr) (c714 : Nat), f = updL j [(0, vP b0z 0), (2, vI a2), (6, .map (some b36)), (25, vS A47 (((idx a1.Txns a2).Ops).length) c48), (26, vI (((idx a1.Txns a2).Ops).length : Int)), (27, vI x716)] ∧ Inv M w [.blk b0z 110 [vS A710 l709.length c711, vS A713 l712.length c714], .row kAsk 37 A710 l709.length c711 l709, .row kSpot 160 A713 l712.length c714 l712, mapO (fun x : Int => vI x) (tSlice 2 (tInt .i64)) b36 m715]) H ⟨_, A0z0, c0z0, A0z1, c0z1, at_, hI.pick [0, 1, 2, 4] (by decide) rfl⟩ ?_
    clear H hI
    rintro ⟨l709, l712, m715, x716⟩ _ _ o1 H ⟨_, A710, c711, A713, c714, rfl, hI⟩ hin1 hout1
    refine go_seq (rp 1 (go_seq ?_))
    replace H := cond_some H
    rcases H with ⟨hc718, H⟩ | ⟨hc718, H⟩
    · refine gt hc718 (go_skip (go_seq ?_))
      refine go_block_join (o := o1) (fun (l938, l941, m944) f w => ∃ (j : Nat → Value) (A939 : Option Addr) (c940 : Nat) (A942 : Option Addr) (c943 : Nat), f = updL j [(0, vP b0z 0), (2, vI a2), (6, .map (some b36)), (25, vS A47 (((idx a1.Txns a2).Ops).length) c48), (26, vI (((idx a1.Txns a2).Ops).length : Int)), (27, vI x716)] ∧ Inv M w [.blk b0z 110 [vS A939 l938.length c940, vS A942 l941.length c943], .row kAsk 37 A939 l938.length c940 l938, .row kSpot 160 A942 l941.length c943 l941, mapO (fun x : Int => vI x) (tSlice 2 (tInt .i64)) b36 m944]) (fun (l938, l941, m944) => local_found_look.j2 x716 l938 l941 m944) ?_ (fun hJ945 => ?_)
      · clear H hI
        rintro ⟨l938, l941, m944⟩ _ _ ⟨_, A939, c940, A942, c943, rfl, hI⟩ H
        refine rp 2 ?_
        exact hin1 _ (Option.some.inj H).symm _ _ ⟨_, A939, c940, A942, c943, at_, hI⟩
      · refine go_seq (r_in ?_)
        replace H := must_some H
        obtain ⟨g957, H⟩ := H
        obtain ⟨b961, q962, rfl, cs960, hk959, hg958⟩ := rdS.open hr49 rfl g957
        obtain ⟨_, _, rfl, rfl, ⟨_, _, rfl, rfl, ⟨_, _, rfl, rfl, ⟨_, _, rfl, rfl, ⟨A963, c964, rfl, hl966, hr965⟩⟩⟩⟩⟩ := hk959
        refine bx 0 [.p, .x, .l 0 0] (gA (hI.lies hg958)) _ (bZ g957) (oe 3 rfl ?_)
        refine e_alloc 64 (.agg #[vI 0, vI 0, vI 0, vB false, vS none 0 0]) [vI 0, vI 0, vI 0, vB false, vS none 0 0] rfl (by kernel_rfl) rfl hI ?_
        clear hI
        intro b967 _ hI
        refine bp 4 1 (oe 5 rfl ?_)
        refine e_store 64 _ _ 4 b967 64 [vI 0, vI 0, vI 0, vB false, vS none 0 0] [vI ((idx ((idx a1.Txns a2).Ops) x716).Kind), vI ((idx ((idx a1.Txns a2).Ops) x716).Key), vI ((idx ((idx a1.Txns a2).Ops) x716).Arg), vB ((idx ((idx a1.Txns a2).Ops) x716).Got), vS A963 (((idx ((idx a1.Txns a2).Ops) x716).Vals).length) c964] 0 (.agg #[vI ((idx ((idx a1.Txns a2).Ops) x716).Kind), vI ((idx ((idx a1.Txns a2).Ops) x716).Key), vI ((idx ((idx a1.Txns a2).Ops) x716).Arg), vB ((idx ((idx a1.Txns a2).Ops) x716).Got), vS A963 (((idx ((idx a1.Txns a2).Ops) x716).Vals).length) c964]) rfl (by kernel_rfl) (by kernel_rfl) (by kernel_rfl) (by kernel_rfl) hI rfl (by kernel_rfl) (by kernel_rfl) ?_
        clear hI
        intro _ hI
        refine ro (go_seq (go_seq (rg [.p, .l 0 0, .p] (gA (hI.grp 4 rfl)) ?_)))
        replace H := cond_some H
        rcases H with ⟨hc1015, H⟩ | ⟨hc1015, H⟩
        · refine gt hc1015 (go_seq ?_)
          replace H := must_some H
          obtain ⟨g1069, H⟩ := H
          refine go_held (fun w => Inv M w [.blk b0z 110 [vS A710 l709.length c711, vS A713 l712.length c714], .row kAsk 37 A710 l709.length c711 l709, .row kSpot 160 A713 l712.length c714 l712, .blk b967 64 [vI ((idx ((idx a1.Txns a2).Ops) x716).Kind), vI ((idx ((idx a1.Txns a2).Ops) x716).Key), vI ((idx ((idx a1.Txns a2).Ops) x716).Arg), vB ((idx ((idx a1.Txns a2).Ops) x716).Got), vS A963 (((idx ((idx a1.Txns a2).Ops) x716).Vals).length) c964]]) (by kernel_rfl) ?_
          replace hI := hI.drew'
          refine hg (n := 4) [(0, .p), (1, .p), (2, .l 0 1), (3, .p), (4, .p), (5, .l 0 1), (7, .p), (8, .l 0 2)] (fun _ hS => (gA (hS.grp 3 rfl))) (hI.pk [0, 1, 2, 4]) ?_
          refine held_each (n := 3) [6, 9] (by simp) (by kernel_rfl) ⟨⟨_, rfl, by kernel_rfl, ?_⟩, ⟨_, rfl, by kernel_rfl, ?_⟩, trivial⟩
          · refine (e_lookupO (ek := (fun x : Int => vI x)) (kt := (tInt .i64)) (e := 2) 179 3 35 _ _ false 3 b36 m715 ((idx ((idx a1.Txns a2).Ops) x716).Key) rfl (by kernel_rfl) (key_int (by kernel_rfl)) (fun _ => by kernel_rfl) (by kernel_rfl) (by kernel_rfl) hI rfl ?_)
            intro A1079 c1080 hr1081 hl1082 hat1083
            replace hI := hI.pin 3 rfl hat1083
            refine ⟨(hI.pk [0, 1, 2, 4]), ?_⟩
            refine ho (n := 2) 9 rfl (e_partsS 35 2 1 _ _ _ #[vI ((idx ((idx a1.Txns a2).Ops) x716).Arg)] [vI ((idx ((idx a1.Txns a2).Ops) x716).Arg)] rfl rfl rfl rfl (by kernel_rfl) (by kernel_rfl) (by kernel_rfl) (by kernel_rfl) hI ?_)
            clear hI
            intro b1086 _ hs1087 hI
            refine ⟨(hI.pk [0, 1, 2, 4]), ?_⟩
            replace hI := hI.takeP 3 rfl
            refine ho (n := 1) 10 rfl (e_append (tInt .i64) 35 0 2 _ _ _ _ A1079 ((mat m715 ((idx ((idx a1.Txns a2).Ops) x716).Key)).length) c1080 (mat m715 ((idx ((idx a1.Txns a2).Ops) x716).Key)) ([(idx ((idx a1.Txns a2).Ops) x716).Arg] : List Int) b1086 0 1 1 [vI ((idx ((idx a1.Txns a2).Ops) x716).Arg)] 0 [] [1, 2, 3, 4, 5, 6] [] [.blk b0z 110 [vS A710 l709.length c711, vS A713 l712.length c714], .row kAsk 37 A710 l709.length c711 l709, .row kSpot 160 A713 l712.length c714 l712, mapO (fun x : Int => vI x) (tOpt (tSlice 2 (tInt .i64))) b36 (mhole m715 ((idx ((idx a1.Txns a2).Ops) x716).Key) [vS A1079 (mat m715 ((idx ((idx a1.Txns a2).Ops) x716).Key)).length c1080]), .blk b967 64 [vI ((idx ((idx a1.Txns a2).Ops) x716).Kind), vI ((idx ((idx a1.Txns a2).Ops) x716).Key), vI ((idx ((idx a1.Txns a2).Ops) x716).Arg), vB ((idx ((idx a1.Txns a2).Ops) x716).Got), vS A963 (((idx ((idx a1.Txns a2).Ops) x716).Vals).length) c964], .blk b1086 2 [vI ((idx ((idx a1.Txns a2).Ops) x716).Arg)]] rfl (by kernel_rfl) (by kernel_rfl) rfl rfl rfl rfl rfl (by kernel_rfl) hI (by decide) rfl rfl rfl (hI.grp 6 rfl) g1069 (mks_cons (mk_flat (k := (tInt .i64)) ((idx ((idx a1.Txns a2).Ops) x716).Arg) [vI ((idx ((idx a1.Txns a2).Ops) x716).Arg)] rfl) mks_nil) ?_)
            clear hI
            intro A1090 c1091 _ hI
            replace hI := hI.pick (L' := [.row (tInt .i64) 2 A1090 (((mat m715 ((idx ((idx a1.Txns a2).Ops) x716).Key)) ++ ([(idx ((idx a1.Txns a2).Ops) x716).Arg] : List Int)).length) c1091 ((mat m715 ((idx ((idx a1.Txns a2).Ops) x716).Key)) ++ ([(idx ((idx a1.Txns a2).Ops) x716).Arg] : List Int)), .blk b0z 110 [vS A710 l709.length c711, vS A713 l712.length c714], .row kAsk 37 A710 l709.length c711 l709, .row kSpot 160 A713 l712.length c714 l712, mapO (fun x : Int => vI x) (tOpt (tSlice 2 (tInt .i64))) b36 (mhole m715 ((idx ((idx a1.Txns a2).Ops) x716).Key) [vS A1079 (mat m715 ((idx ((idx a1.Txns a2).Ops) x716).Key)).length c1080]), .blk b967 64 [vI ((idx ((idx a1.Txns a2).Ops) x716).Kind), vI ((idx ((idx a1.Txns a2).Ops) x716).Key), vI ((idx ((idx a1.Txns a2).Ops) x716).Arg), vB ((idx ((idx a1.Txns a2).Ops) x716).Got), vS A963 (((idx ((idx a1.Txns a2).Ops) x716).Vals).length) c964]]) [0, 1, 2, 3, 4, 5] (by decide) rfl
            refine ⟨(hI.pk [1, 2, 3, 5]), ?_⟩
            refine ho (n := 0) 11 rfl (e_mapputO (kv := tOpt (tSlice 2 (tInt .i64))) (ek := (fun x : Int => vI x)) 179 3 35 _ _ _ 4 [0] [1, 2, 3, 5] [.row (tInt .i64) 2 A1090 (((mat m715 ((idx ((idx a1.Txns a2).Ops) x716).Key)) ++ ([(idx ((idx a1.Txns a2).Ops) x716).Arg] : List Int)).length) c1091 ((mat m715 ((idx ((idx a1.Txns a2).Ops) x716).Key)) ++ ([(idx ((idx a1.Txns a2).Ops) x716).Arg] : List Int))] [.blk b0z 110 [vS A710 l709.length c711, vS A713 l712.length c714], .row kAsk 37 A710 l709.length c711 l709, .row kSpot 160 A713 l712.length c714 l712, .blk b967 64 [vI ((idx ((idx a1.Txns a2).Ops) x716).Kind), vI ((idx ((idx a1.Txns a2).Ops) x716).Key), vI ((idx ((idx a1.Txns a2).Ops) x716).Arg), vB ((idx ((idx a1.Txns a2).Ops) x716).Got), vS A963 (((idx ((idx a1.Txns a2).Ops) x716).Vals).length) c964]] b36 (mhole m715 ((idx ((idx a1.Txns a2).Ops) x716).Key) [vS A1079 (mat m715 ((idx ((idx a1.Txns a2).Ops) x716).Key)).length c1080]) ((idx ((idx a1.Txns a2).Ops) x716).Key) (Sum.inl ((mat m715 ((idx ((idx a1.Txns a2).Ops) x716).Key)) ++ ([(idx ((idx a1.Txns a2).Ops) x716).Arg] : List Int))) (vS A1090 (((mat m715 ((idx ((idx a1.Txns a2).Ops) x716).Key)) ++ ([(idx ((idx a1.Txns a2).Ops) x716).Arg] : List Int)).length) c1091) rfl (by kernel_rfl) (key_int (by kernel_rfl)) (by kernel_rfl) (by kernel_rfl) (by kernel_rfl) rfl hI (by decide) rfl mk_row ?_)
            clear hI
            intro _ hI
            replace hI := hI.mapback 0 (mput m715 ((idx ((idx a1.Txns a2).Ops) x716).Key) ((mat m715 ((idx ((idx a1.Txns a2).Ops) x716).Key)) ++ ([(idx ((idx a1.Txns a2).Ops) x716).Arg] : List Int))) rfl mhole_put
            refine ⟨(hI.pk [1, 2, 3, 4]), ?_⟩
            refine hd ?_
            refine go_exit rfl ?_
            exact hJ945 (l709, l712, mput m715 ((idx ((idx a1.Txns a2).Ops) x716).Key) ((mat m715 ((idx ((idx a1.Txns a2).Ops) x716).Key)) ++ ([(idx ((idx a1.Txns a2).Ops) x716).Arg] : List Int))) _ _ ⟨_, A710, c711, A713, c714, at_, hI.pick [1, 2, 3, 0] (by decide) rfl⟩ H
          · refine (e_partsS 35 2 1 _ _ _ #[vI ((idx ((idx a1.Txns a2).Ops) x716).Arg)] [vI ((idx ((idx a1.Txns a2).Ops) x716).Arg)] rfl rfl rfl rfl (by kernel_rfl) (by kernel_rfl) (by kernel_rfl) (by kernel_rfl) hI ?_)
            clear hI
            intro b1092 _ hs1093 hI
            refine ⟨(hI.pk [0, 1, 2, 4]), ?_⟩
            refine ho (n := 2) 6 rfl (e_lookupO (ek := (fun x : Int => vI x)) (kt := (tInt .i64)) (e := 2) 179 3 35 _ _ false 3 b36 m715 ((idx ((idx a1.Txns a2).Ops) x716).Key) rfl (by kernel_rfl) (key_int (by kernel_rfl)) (fun _ => by kernel_rfl) (by kernel_rfl) (by kernel_rfl) hI rfl ?_)
            intro A1099 c1100 hr1101 hl1102 hat1103
            replace hI := hI.pin 3 rfl hat1103
            refine ⟨(hI.pk [0, 1, 2, 4]), ?_⟩
            replace hI := hI.takeP 3 rfl
            refine ho (n := 1) 10 rfl (e_append (tInt .i64) 35 0 2 _ _ _ _ A1099 ((mat m715 ((idx ((idx a1.Txns a2).Ops) x716).Key)).length) c1100 (mat m715 ((idx ((idx a1.Txns a2).Ops) x716).Key)) ([(idx ((idx a1.Txns a2).Ops) x716).Arg] : List Int) b1092 0 1 1 [vI ((idx ((idx a1.Txns a2).Ops) x716).Arg)] 0 [] [1, 2, 3, 4, 5, 6] [] [.blk b0z 110 [vS A710 l709.length c711, vS A713 l712.length c714], .row kAsk 37 A710 l709.length c711 l709, .row kSpot 160 A713 l712.length c714 l712, mapO (fun x : Int => vI x) (tOpt (tSlice 2 (tInt .i64))) b36 (mhole m715 ((idx ((idx a1.Txns a2).Ops) x716).Key) [vS A1099 (mat m715 ((idx ((idx a1.Txns a2).Ops) x716).Key)).length c1100]), .blk b967 64 [vI ((idx ((idx a1.Txns a2).Ops) x716).Kind), vI ((idx ((idx a1.Txns a2).Ops) x716).Key), vI ((idx ((idx a1.Txns a2).Ops) x716).Arg), vB ((idx ((idx a1.Txns a2).Ops) x716).Got), vS A963 (((idx ((idx a1.Txns a2).Ops) x716).Vals).length) c964], .blk b1092 2 [vI ((idx ((idx a1.Txns a2).Ops) x716).Arg)]] rfl (by kernel_rfl) (by kernel_rfl) rfl rfl rfl rfl rfl (by kernel_rfl) hI (by decide) rfl rfl rfl (hI.grp 6 rfl) g1069 (mks_cons (mk_flat (k := (tInt .i64)) ((idx ((idx a1.Txns a2).Ops) x716).Arg) [vI ((idx ((idx a1.Txns a2).Ops) x716).Arg)] rfl) mks_nil) ?_)
            clear hI
            intro A1106 c1107 _ hI
            replace hI := hI.pick (L' := [.row (tInt .i64) 2 A1106 (((mat m715 ((idx ((idx a1.Txns a2).Ops) x716).Key)) ++ ([(idx ((idx a1.Txns a2).Ops) x716).Arg] : List Int)).length) c1107 ((mat m715 ((idx ((idx a1.Txns a2).Ops) x716).Key)) ++ ([(idx ((idx a1.Txns a2).Ops) x716).Arg] : List Int)), .blk b0z 110 [vS A710 l709.length c711, vS A713 l712.length c714], .row kAsk 37 A710 l709.length c711 l709, .row kSpot 160 A713 l712.length c714 l712, mapO (fun x : Int => vI x) (tOpt (tSlice 2 (tInt .i64))) b36 (mhole m715 ((idx ((idx a1.Txns a2).Ops) x716).Key) [vS A1099 (mat m715 ((idx ((idx a1.Txns a2).Ops) x716).Key)).length c1100]), .blk b967 64 [vI ((idx ((idx a1.Txns a2).Ops) x716).Kind), vI ((idx ((idx a1.Txns a2).Ops) x716).Key), vI ((idx ((idx a1.Txns a2).Ops) x716).Arg), vB ((idx ((idx a1.Txns a2).Ops) x716).Got), vS A963 (((idx ((idx a1.Txns a2).Ops) x716).Vals).length) c964]]) [0, 1, 2, 3, 4, 5] (by decide) rfl
            refine ⟨(hI.pk [1, 2, 3, 5]), ?_⟩
            refine ho (n := 0) 11 rfl (e_mapputO (kv := tOpt (tSlice 2 (tInt .i64))) (ek := (fun x : Int => vI x)) 179 3 35 _ _ _ 4 [0] [1, 2, 3, 5] [.row (tInt .i64) 2 A1106 (((mat m715 ((idx ((idx a1.Txns a2).Ops) x716).Key)) ++ ([(idx ((idx a1.Txns a2).Ops) x716).Arg] : List Int)).length) c1107 ((mat m715 ((idx ((idx a1.Txns a2).Ops) x716).Key)) ++ ([(idx ((idx a1.Txns a2).Ops) x716).Arg] : List Int))] [.blk b0z 110 [vS A710 l709.length c711, vS A713 l712.length c714], .row kAsk 37 A710 l709.length c711 l709, .row kSpot 160 A713 l712.length c714 l712, .blk b967 64 [vI ((idx ((idx a1.Txns a2).Ops) x716).Kind), vI ((idx ((idx a1.Txns a2).Ops) x716).Key), vI ((idx ((idx a1.Txns a2).Ops) x716).Arg), vB ((idx ((idx a1.Txns a2).Ops) x716).Got), vS A963 (((idx ((idx a1.Txns a2).Ops) x716).Vals).length) c964]] b36 (mhole m715 ((idx ((idx a1.Txns a2).Ops) x716).Key) [vS A1099 (mat m715 ((idx ((idx a1.Txns a2).Ops) x716).Key)).length c1100]) ((idx ((idx a1.Txns a2).Ops) x716).Key) (Sum.inl ((mat m715 ((idx ((idx a1.Txns a2).Ops) x716).Key)) ++ ([(idx ((idx a1.Txns a2).Ops) x716).Arg] : List Int))) (vS A1106 (((mat m715 ((idx ((idx a1.Txns a2).Ops) x716).Key)) ++ ([(idx ((idx a1.Txns a2).Ops) x716).Arg] : List Int)).length) c1107) rfl (by kernel_rfl) (key_int (by kernel_rfl)) (by kernel_rfl) (by kernel_rfl) (by kernel_rfl) rfl hI (by decide) rfl mk_row ?_)
            clear hI
            intro _ hI
            replace hI := hI.mapback 0 (mput m715 ((idx ((idx a1.Txns a2).Ops) x716).Key) ((mat m715 ((idx ((idx a1.Txns a2).Ops) x716).Key)) ++ ([(idx ((idx a1.Txns a2).Ops) x716).Arg] : List Int))) rfl mhole_put
            refine ⟨(hI.pk [1, 2, 3, 4]), ?_⟩
            refine hd ?_
            refine go_exit rfl ?_
            exact hJ945 (l709, l712, mput m715 ((idx ((idx a1.Txns a2).Ops) x716).Key) ((mat m715 ((idx ((idx a1.Txns a2).Ops) x716).Key)) ++ ([(idx ((idx a1.Txns a2).Ops) x716).Arg] : List Int))) _ _ ⟨_, A710, c711, A713, c714, at_, hI.pick [1, 2, 3, 0] (by decide) rfl⟩ H
        · refine ge hc1015 (go_skip (go_seq (r_in (bg 0 [.p, .l 0 4] (gA (hI.grp 4 rfl)) ?_))))
          replace H := bind_some H
          obtain ⟨y1112, hy1113, H⟩ := H
          refine oe 2 rfl ?_
          refine ec (enter106 _) (slices_Clone_int64zcalls A963 c964 ((idx ((idx a1.Txns a2).Ops) x716).Vals) (memOf _) _ (Inv.start _) (hI.rd hr965) hl966 _ hy1113) ?_
          rintro _ _ ⟨A1114, c1115, rfl, hI'⟩
          replace hI := hI.call0 hI'
          clear hI'
          refine ⟨_, rfl, ?_⟩
          refine bp 3 2 (ro ?_)
          refine go_seq_join (o := o1) (fun (l1129, b1132) f w => ∃ (j : Nat → Value) (A1130 : Option Addr) (c1131 : Nat), f = updL j [(0, vP b0z 0), (2, vI a2), (6, .map (some b36)), (7, vI x716), (8, vP b967 0), (9, vS A1130 l1129.length c1131), (10, vB b1132), (25, vS (some ⟨b961, q962, none⟩) (((idx a1.Txns a2).Ops).length) c48), (26, vI (((idx a1.Txns a2).Ops).length : Int)), (27, vI x716)] ∧ Inv M w [.blk b0z 110 [vS A710 l709.length c711, vS A713 l712.length c714], .row kAsk 37 A710 l709.length c711 l709, .row kSpot 160 A713 l712.length c714 l712, mapO (fun x : Int => vI x) (tSlice 2 (tInt .i64)) b36 m715, .blk b967 64 [vI ((idx ((idx a1.Txns a2).Ops) x716).Kind), vI ((idx ((idx a1.Txns a2).Ops) x716).Key), vI ((idx ((idx a1.Txns a2).Ops) x716).Arg), vB ((idx ((idx a1.Txns a2).Ops) x716).Got), vS A963 (((idx ((idx a1.Txns a2).Ops) x716).Vals).length) c964], .row (tInt .i64) 2 A1130 l1129.length c1131 l1129]) (fun (l1129, b1132) => local_found_look.j3 a1 a2 l709 l712 m715 x716 l1129 b1132) ?_ (fun hJ1133 => ?_)
          · clear H hI
            rintro ⟨l1129, b1132⟩ _ _ ⟨_, A1130, c1131, rfl, hI⟩ H
            refine go_seq (go_seq (rp 2 ?_))
            replace H := cond_some H
            rcases H with ⟨hc1140, H⟩ | ⟨hc1140, H⟩
            · refine gt hc1140 (go_seq (r_in (bg 0 [.p, .p, .p, .p, .l 0 1, .p, .p, .p] (gA (hI.grp 0 rfl)) (oe 8 rfl ?_))))
              refine e_partsS 75 160 1 _ _ _ #[vI a2, vI x716] [vI a2, vI x716] rfl rfl rfl rfl (by kernel_rfl) (by kernel_rfl) (by kernel_rfl) (by kernel_rfl) hI ?_
              clear hI
              intro b1146 _ hs1147 hI
              replace H := must_some H
              obtain ⟨g1148, H⟩ := H
              refine oe 9 rfl ?_
              refine e_append kSpot 75 0 160 _ _ _ _ A713 l712.length c714 l712 ([(⟨a2, x716⟩ : Spot)] : List Spot) b1146 0 1 1 [vI a2, vI x716] 2 [] [0, 1, 3, 4, 5, 6] [] [.blk b0z 110 [vS A710 l709.length c711, vS A713 l712.length c714], .row kAsk 37 A710 l709.length c711 l709, mapO (fun x : Int => vI x) (tSlice 2 (tInt .i64)) b36 m715, .blk b967 64 [vI ((idx ((idx a1.Txns a2).Ops) x716).Kind), vI ((idx ((idx a1.Txns a2).Ops) x716).Key), vI ((idx ((idx a1.Txns a2).Ops) x716).Arg), vB ((idx ((idx a1.Txns a2).Ops) x716).Got), vS A963 (((idx ((idx a1.Txns a2).Ops) x716).Vals).length) c964], .row (tInt .i64) 2 A1130 l1129.length c1131 l1129, .blk b1146 160 [vI a2, vI x716]] rfl (by kernel_rfl) (by kernel_rfl) rfl rfl rfl rfl rfl (by kernel_rfl) hI (by decide) rfl rfl rfl (hI.grp 6 rfl) g1148 (mks_cons (mk_flat (k := kSpot) (⟨a2, x716⟩ : Spot) [vI a2, vI x716] rfl) mks_nil) ?_
              clear hI
              intro A1149 c1150 _ hI
              replace hI := hI.pick (L' := [.row kSpot 160 A1149 ((l712 ++ ([(⟨a2, x716⟩ : Spot)] : List Spot)).length) c1150 (l712 ++ ([(⟨a2, x716⟩ : Spot)] : List Spot)), .blk b0z 110 [vS A710 l709.length c711, vS A713 l712.length c714], .row kAsk 37 A710 l709.length c711 l709, mapO (fun x : Int => vI x) (tSlice 2 (tInt .i64)) b36 m715, .blk b967 64 [vI ((idx ((idx a1.Txns a2).Ops) x716).Kind), vI ((idx ((idx a1.Txns a2).Ops) x716).Key), vI ((idx ((idx a1.Txns a2).Ops) x716).Arg), vB ((idx ((idx a1.Txns a2).Ops) x716).Got), vS A963 (((idx ((idx a1.Txns a2).Ops) x716).Vals).length) c964], .row (tInt .i64) 2 A1130 l1129.length c1131 l1129]) [0, 1, 2, 3, 4, 5] (by decide) rfl
              refine bp 10 2 (oe 12 rfl ?_)
              refine e_store 75 _ _ 1 b0z 110 [vS A710 l709.length c711, vS A713 l712.length c714] [vS A710 l709.length c711, vS A1149 ((l712 ++ ([(⟨a2, x716⟩ : Spot)] : List Spot)).length) c1150] 1 (vS A1149 ((l712 ++ ([(⟨a2, x716⟩ : Spot)] : List Spot)).length) c1150) rfl (by kernel_rfl) (by kernel_rfl) (by kernel_rfl) (by kernel_rfl) hI rfl (by kernel_rfl) (by kernel_rfl) ?_
              clear hI
              intro _ hI
              refine ro ?_
              refine go_exit rfl ?_
              exact hJ945 (l709, l712 ++ ([(⟨a2, x716⟩ : Spot)] : List Spot), m715) _ _ ⟨_, A710, c711, A1149, c1150, at_, hI.pick [1, 2, 0, 3] (by decide) rfl⟩ H
            · refine ge hc1140 (go_skip ?_)
              replace H := must_some H
              obtain ⟨g1153, H⟩ := H
              refine go_held (fun w => Inv M w [.row kSpot 160 A713 l712.length c714 l712, mapO (fun x : Int => vI x) (tSlice 2 (tInt .i64)) b36 m715, .blk b967 64 [vI ((idx ((idx a1.Txns a2).Ops) x716).Kind), vI ((idx ((idx a1.Txns a2).Ops) x716).Key), vI ((idx ((idx a1.Txns a2).Ops) x716).Arg), vB ((idx ((idx a1.Txns a2).Ops) x716).Got), vS A963 (((idx ((idx a1.Txns a2).Ops) x716).Vals).length) c964]]) (by kernel_rfl) ?_
              replace hI := hI.drew'
              refine hg (n := 6) [(0, .p), (1, .p), (2, .p), (3, .p), (5, .p), (6, .p), (7, .p), (8, .l 0 1), (9, .p), (10, .p)] (fun _ hS => (gA (hS.grp 2 rfl))) (hI.pk [2, 3, 4]) ?_
              refine held_each (n := 5) [4, 11] (by simp) (by kernel_rfl) ⟨⟨_, rfl, by kernel_rfl, ?_⟩, ⟨_, rfl, by kernel_rfl, ?_⟩, trivial⟩
              · refine (e_read (ops := #[]) [(b0z, 0, [vS A710 l709.length c711, vS A713 l712.length c714])] (.l 0 0) (vS A710 l709.length c711) [] ⟨(hI.grp 0 rfl), trivial⟩ trivial (by kernel_rfl) (by kernel_rfl) (by kernel_rfl) ⟨(hI.pk [2, 3, 4]), ?_⟩)
                refine ho (n := 4) 11 rfl (e_partsS 27 37 1 _ _ _ #[vI a2, vI x716, vI ((idx ((idx a1.Txns a2).Ops) x716).Key), vS A1130 l1129.length c1131] [vI a2, vI x716, vI ((idx ((idx a1.Txns a2).Ops) x716).Key), vS A1130 l1129.length c1131] rfl rfl rfl rfl (by kernel_rfl) (by kernel_rfl) (by kernel_rfl) (by kernel_rfl) hI ?_)
                clear hI
                intro b1160 _ hs1161 hI
                refine ⟨(hI.pk [2, 3, 4]), ?_⟩
                refine ho (n := 3) 12 rfl (e_append kAsk 27 0 37 _ _ _ _ A710 l709.length c711 l709 ([(⟨a2, x716, (idx ((idx a1.Txns a2).Ops) x716).Key, l1129⟩ : Ask)] : List Ask) b1160 0 1 1 [vI a2, vI x716, vI ((idx ((idx a1.Txns a2).Ops) x716).Key), vS A1130 l1129.length c1131] 1 [5] [0, 2, 3, 4, 6] [.row (tInt .i64) 2 A1130 l1129.length c1131 l1129] [.blk b0z 110 [vS A710 l709.length c711, vS A713 l712.length c714], .row kSpot 160 A713 l712.length c714 l712, mapO (fun x : Int => vI x) (tSlice 2 (tInt .i64)) b36 m715, .blk b967 64 [vI ((idx ((idx a1.Txns a2).Ops) x716).Kind), vI ((idx ((idx a1.Txns a2).Ops) x716).Key), vI ((idx ((idx a1.Txns a2).Ops) x716).Arg), vB ((idx ((idx a1.Txns a2).Ops) x716).Got), vS A963 (((idx ((idx a1.Txns a2).Ops) x716).Vals).length) c964], .blk b1160 37 [vI a2, vI x716, vI ((idx ((idx a1.Txns a2).Ops) x716).Key), vS A1130 l1129.length c1131]] rfl (by kernel_rfl) (by kernel_rfl) rfl rfl rfl rfl rfl (by kernel_rfl) hI (by decide) rfl rfl rfl (hI.grp 6 rfl) g1153 (mks_cons (mk_iso (g := fun g : Ask => (g.Txn, g.Place, g.Key, g.Base)) (x := (⟨a2, x716, (idx ((idx a1.Txns a2).Ops) x716).Key, l1129⟩ : Ask)) (mk_pair (mk_flat (k := (tInt .i64)) a2 [vI a2] rfl) (mk_pair (mk_flat (k := (tInt .i64)) x716 [vI x716] rfl) (mk_pair (mk_flat (k := (tInt .i64)) ((idx ((idx a1.Txns a2).Ops) x716).Key) [vI ((idx ((idx a1.Txns a2).Ops) x716).Key)] rfl) mk_row)))) mks_nil) ?_)
                clear hI
                intro A1164 c1165 _ hI
                replace hI := hI.pick (L' := [.row kAsk 37 A1164 ((l709 ++ ([(⟨a2, x716, (idx ((idx a1.Txns a2).Ops) x716).Key, l1129⟩ : Ask)] : List Ask)).length) c1165 (l709 ++ ([(⟨a2, x716, (idx ((idx a1.Txns a2).Ops) x716).Key, l1129⟩ : Ask)] : List Ask)), .blk b0z 110 [vS A710 l709.length c711, vS A713 l712.length c714], .row kSpot 160 A713 l712.length c714 l712, mapO (fun x : Int => vI x) (tSlice 2 (tInt .i64)) b36 m715, .blk b967 64 [vI ((idx ((idx a1.Txns a2).Ops) x716).Kind), vI ((idx ((idx a1.Txns a2).Ops) x716).Key), vI ((idx ((idx a1.Txns a2).Ops) x716).Arg), vB ((idx ((idx a1.Txns a2).Ops) x716).Got), vS A963 (((idx ((idx a1.Txns a2).Ops) x716).Vals).length) c964]]) [0, 1, 2, 3, 4] (by decide) rfl
                refine ⟨(hI.pk [2, 3, 4]), ?_⟩
                refine hg (n := 1) [(13, .p), (14, .p)] (fun _ hS => gO) (hI.pk [2, 3, 4]) ?_
                refine ho (n := 0) 15 rfl (e_store 27 _ _ 1 b0z 110 [vS A710 l709.length c711, vS A713 l712.length c714] [vS A1164 ((l709 ++ ([(⟨a2, x716, (idx ((idx a1.Txns a2).Ops) x716).Key, l1129⟩ : Ask)] : List Ask)).length) c1165, vS A713 l712.length c714] 0 (vS A1164 ((l709 ++ ([(⟨a2, x716, (idx ((idx a1.Txns a2).Ops) x716).Key, l1129⟩ : Ask)] : List Ask)).length) c1165) rfl (by kernel_rfl) (by kernel_rfl) (by kernel_rfl) (by kernel_rfl) hI rfl (by kernel_rfl) (by kernel_rfl) ?_)
                clear hI
                intro _ hI
                refine ⟨(hI.pk [2, 3, 4]), ?_⟩
                refine hd (go_inBlock ?_)
                exact hJ945 (l709 ++ ([(⟨a2, x716, (idx ((idx a1.Txns a2).Ops) x716).Key, l1129⟩ : Ask)] : List Ask), l712, m715) _ _ ⟨_, A1164, c1165, A713, c714, at_, hI.pick [1, 0, 2, 3] (by decide) rfl⟩ H
              · refine (e_partsS 27 37 1 _ _ _ #[vI a2, vI x716, vI ((idx ((idx a1.Txns a2).Ops) x716).Key), vS A1130 l1129.length c1131] [vI a2, vI x716, vI ((idx ((idx a1.Txns a2).Ops) x716).Key), vS A1130 l1129.length c1131] rfl rfl rfl rfl (by kernel_rfl) (by kernel_rfl) (by kernel_rfl) (by kernel_rfl) hI ?_)
                clear hI
                intro b1166 _ hs1167 hI
                refine ⟨(hI.pk [2, 3, 4]), ?_⟩
                refine ho (n := 4) 4 rfl (e_read (ops := #[]) [(b0z, 0, [vS A710 l709.length c711, vS A713 l712.length c714])] (.l 0 0) (vS A710 l709.length c711) [] ⟨(hI.grp 0 rfl), trivial⟩ trivial (by kernel_rfl) (by kernel_rfl) (by kernel_rfl) ⟨(hI.pk [2, 3, 4]), ?_⟩)
                refine ho (n := 3) 12 rfl (e_append kAsk 27 0 37 _ _ _ _ A710 l709.length c711 l709 ([(⟨a2, x716, (idx ((idx a1.Txns a2).Ops) x716).Key, l1129⟩ : Ask)] : List Ask) b1166 0 1 1 [vI a2, vI x716, vI ((idx ((idx a1.Txns a2).Ops) x716).Key), vS A1130 l1129.length c1131] 1 [5] [0, 2, 3, 4, 6] [.row (tInt .i64) 2 A1130 l1129.length c1131 l1129] [.blk b0z 110 [vS A710 l709.length c711, vS A713 l712.length c714], .row kSpot 160 A713 l712.length c714 l712, mapO (fun x : Int => vI x) (tSlice 2 (tInt .i64)) b36 m715, .blk b967 64 [vI ((idx ((idx a1.Txns a2).Ops) x716).Kind), vI ((idx ((idx a1.Txns a2).Ops) x716).Key), vI ((idx ((idx a1.Txns a2).Ops) x716).Arg), vB ((idx ((idx a1.Txns a2).Ops) x716).Got), vS A963 (((idx ((idx a1.Txns a2).Ops) x716).Vals).length) c964], .blk b1166 37 [vI a2, vI x716, vI ((idx ((idx a1.Txns a2).Ops) x716).Key), vS A1130 l1129.length c1131]] rfl (by kernel_rfl) (by kernel_rfl) rfl rfl rfl rfl rfl (by kernel_rfl) hI (by decide) rfl rfl rfl (hI.grp 6 rfl) g1153 (mks_cons (mk_iso (g := fun g : Ask => (g.Txn, g.Place, g.Key, g.Base)) (x := (⟨a2, x716, (idx ((idx a1.Txns a2).Ops) x716).Key, l1129⟩ : Ask)) (mk_pair (mk_flat (k := (tInt .i64)) a2 [vI a2] rfl) (mk_pair (mk_flat (k := (tInt .i64)) x716 [vI x716] rfl) (mk_pair (mk_flat (k := (tInt .i64)) ((idx ((idx a1.Txns a2).Ops) x716).Key) [vI ((idx ((idx a1.Txns a2).Ops) x716).Key)] rfl) mk_row)))) mks_nil) ?_)
                clear hI
                intro A1170 c1171 _ hI
                replace hI := hI.pick (L' := [.row kAsk 37 A1170 ((l709 ++ ([(⟨a2, x716, (idx ((idx a1.Txns a2).Ops) x716).Key, l1129⟩ : Ask)] : List Ask)).length) c1171 (l709 ++ ([(⟨a2, x716, (idx ((idx a1.Txns a2).Ops) x716).Key, l1129⟩ : Ask)] : List Ask)), .blk b0z 110 [vS A710 l709.length c711, vS A713 l712.length c714], .row kSpot 160 A713 l712.length c714 l712, mapO (fun x : Int => vI x) (tSlice 2 (tInt .i64)) b36 m715, .blk b967 64 [vI ((idx ((idx a1.Txns a2).Ops) x716).Kind), vI ((idx ((idx a1.Txns a2).Ops) x716).Key), vI ((idx ((idx a1.Txns a2).Ops) x716).Arg), vB ((idx ((idx a1.Txns a2).Ops) x716).Got), vS A963 (((idx ((idx a1.Txns a2).Ops) x716).Vals).length) c964]]) [0, 1, 2, 3, 4] (by decide) rfl
                refine ⟨(hI.pk [2, 3, 4]), ?_⟩
                refine hg (n := 1) [(13, .p), (14, .p)] (fun _ hS => gO) (hI.pk [2, 3, 4]) ?_
                refine ho (n := 0) 15 rfl (e_store 27 _ _ 1 b0z 110 [vS A710 l709.length c711, vS A713 l712.length c714] [vS A1170 ((l709 ++ ([(⟨a2, x716, (idx ((idx a1.Txns a2).Ops) x716).Key, l1129⟩ : Ask)] : List Ask)).length) c1171, vS A713 l712.length c714] 0 (vS A1170 ((l709 ++ ([(⟨a2, x716, (idx ((idx a1.Txns a2).Ops) x716).Key, l1129⟩ : Ask)] : List Ask)).length) c1171) rfl (by kernel_rfl) (by kernel_rfl) (by kernel_rfl) (by kernel_rfl) hI rfl (by kernel_rfl) (by kernel_rfl) ?_)
                clear hI
                intro _ hI
                refine ⟨(hI.pk [2, 3, 4]), ?_⟩
                refine hd (go_inBlock ?_)
                exact hJ945 (l709 ++ ([(⟨a2, x716, (idx ((idx a1.Txns a2).Ops) x716).Key, l1129⟩ : Ask)] : List Ask), l712, m715) _ _ ⟨_, A1170, c1171, A713, c714, at_, hI.pick [1, 0, 2, 3] (by decide) rfl⟩ H
          · refine go_seq (r_in (bg 0 [.p, .p, .l 0 1] (gA (hI.grp 4 rfl)) (oe 3 rfl ?_)))
            refine e_lookupO (ek := (fun x : Int => vI x)) (kt := (tInt .i64)) (e := 2) 179 3 35 _ _ false 3 b36 m715 ((idx ((idx a1.Txns a2).Ops) x716).Key) rfl (by kernel_rfl) (key_int (by kernel_rfl)) (fun _ => by kernel_rfl) (by kernel_rfl) (by kernel_rfl) hI rfl ?_
            intro A1177 c1178 hr1179 hl1180 hat1181
            replace hI := hI.pin 3 rfl hat1181
            refine bp 4 1 (ro (go_seq (rp 3 ?_)))
            replace H := cond_some H
            rcases H with ⟨hc1182, H⟩ | ⟨hc1182, H⟩
            · refine gt hc1182 (go_seq (r_in (bg 0 [.p, .l 0 0, .p, .p, .l 0 4, .p] (gA (hI.grp 4 rfl)) ?_)))
              replace H := bind_some H
              obtain ⟨y1187, hy1188, H⟩ := H
              refine oe 6 rfl ?_
              refine ec (enter107 _) (state_Before_calls (w64 (((idx ((idx a1.Txns a2).Ops) x716).Kind) - 4)) A963 c964 ((idx ((idx a1.Txns a2).Ops) x716).Vals) A1177 c1178 (mat m715 ((idx ((idx a1.Txns a2).Ops) x716).Key)) (memOf _) _ (Inv.start _) (hI.rd hr965) hl966 (hI.pinrd 3 rfl) (hI.pinle 3 rfl) _ hy1188) ?_
              rintro _ _ ⟨A1189, c1190, rfl, hI'⟩
              replace hI := hI.call0 hI'
              clear hI'
              refine ⟨_, rfl, ?_⟩
              refine bp 7 5 (ro ?_)
              refine go_seq_join (o := o1) (fun b1192 f w => ∃ (j : Nat → Value), f = updL j [(0, vP b0z 0), (2, vI a2), (6, .map (some b36)), (7, vI x716), (8, vP b967 0), (9, vS A1189 y1187.1.length c1190), (10, vB y1187.2), (25, vS (some ⟨b961, q962, none⟩) (((idx a1.Txns a2).Ops).length) c48), (26, vI (((idx a1.Txns a2).Ops).length : Int)), (27, vI x716), (71, vB b1192)] ∧ Inv M w [.blk b0z 110 [vS A710 l709.length c711, vS A713 l712.length c714], .row kAsk 37 A710 l709.length c711 l709, .row kSpot 160 A713 l712.length c714 l712, mapPin (fun x : Int => vI x) (tInt .i64) 2 b36 m715 ((idx ((idx a1.Txns a2).Ops) x716).Key) A1177 c1178, .blk b967 64 [vI ((idx ((idx a1.Txns a2).Ops) x716).Kind), vI ((idx ((idx a1.Txns a2).Ops) x716).Key), vI ((idx ((idx a1.Txns a2).Ops) x716).Arg), vB ((idx ((idx a1.Txns a2).Ops) x716).Got), vS A963 (((idx ((idx a1.Txns a2).Ops) x716).Vals).length) c964], .row (tInt .i64) 2 A1189 y1187.1.length c1190 y1187.1]) (fun b1192 => local_found_look.j4 a1 a2 l709 l712 m715 x716 y1187 b1192) ?_ (fun hJ1193 => ?_)
              · clear H hI
                rintro b1192 _ _ ⟨_, rfl, hI⟩ H
                replace H := cond_some H
                rcases H with ⟨hc1194, H⟩ | ⟨hc1194, H⟩
                · refine gt hc1194 ?_
                  refine go_exit rfl ?_
                  replace hI := hI.unpin 3 rfl
                  exact hJ945 (l709, l712, m715) _ _ ⟨_, A710, c711, A713, c714, at_, hI.pick [0, 1, 2, 3] (by decide) rfl⟩ H
                · refine ge hc1194 (go_skip ?_)
                  replace hI := hI.unpin 3 rfl
                  exact hJ1133 (y1187.1, y1187.2) _ _ ⟨_, A1189, c1190, at_, hI⟩ H
              · refine r_in ?_
                replace H := cond_some H
                rcases H with ⟨hc1195, H⟩ | ⟨hc1195, H⟩
                · refine bx 0 [.p, .c true, .p, .l 0 0, .p, .p] (gA (hI.grp 4 rfl)) _ (bZ (bndEq hc1195)) (ro ?_)
                  exact hJ1193 ((idx ((idx a1.Txns a2).Ops) x716).Kind == 5) _ _ ⟨_, at_, hI.pick [0, 1, 2, 3, 4, 6] (by decide) rfl⟩ H
                · refine bx 0 [.p, .c false, .p, .p, .p, .p] gO _ (bZ (bndEq hc1195)) (ro ?_)
                  exact hJ1193 false _ _ ⟨_, at_, hI.pick [0, 1, 2, 3, 4, 6] (by decide) rfl⟩ H
            · refine ge hc1182 (go_skip ?_)
              replace hI := hI.unpin 3 rfl
              exact hJ1133 (y1112, true) _ _ ⟨_, A1114, c1115, at_, hI⟩ H
    · refine ge hc718 ?_
      refine go_exit rfl ?_
      replace H := out_some H
      obtain ⟨_, H, he1⟩ := H
      have he := (hout1 _ he1).symm
      subst he
      replace H := Option.some.inj H
      subst H
      exact go_finish (.tuple #[]) Try.func88 (by kernel_rfl) ⟨A710, c711, A713, c714, rfl, hI.pick [0, 1, 2] (by decide) rfl⟩
theorem enter60 (a : Array Value) : Sem.pureRun Try.prog (callFunc 60 a) = some (.enter 60 a) := by kernel_rfl
theorem local_all_calls (a0 : History) (A0z0 : Option Addr) (c0z0 : Nat) (A0z1 : Option Addr) (c0z1 : Nat) (M : Mem) (w : World) (hI : Inv M w []) (hr0z0 : rdS tStr M.blk A0z0 a0.Keys) (hl0z0 : a0.Keys.length ≤ c0z0) (hr0z1 : rdS kTxn M.blk A0z1 a0.Txns) (hl0z1 : a0.Txns.length ≤ c0z1) (r : LocalFound × Int) (H : local_all a0 = some r) :
    Calls Try.prog 60 #[.agg #[vS A0z0 a0.Keys.length c0z0, vS A0z1 a0.Txns.length c0z1]] w fun e w' => ∃ (A273 : Option Addr), ∃ (c274 : Nat), ∃ (A275 : Option Addr), ∃ (c276 : Nat), e = .returned (.tuple #[.agg #[vS A273 r.1.asks.length c274, vS A275 r.1.bad.length c276], vI r.2]) ∧ Inv M w' [.row kAsk 37 A273 r.1.asks.length c274 r.1.asks, .row kSpot 160 A275 r.1.bad.length c276 r.1.bad] := by
  refine cg Try.func60 ?_
  intro cs
  unfold local_all at H
  refine go_seq (r_in (oe 0 rfl ?_))
  refine e_box 25 _ (.agg #[vS A0z0 a0.Keys.length c0z0, vS A0z1 a0.Txns.length c0z1]) [vS A0z0 a0.Keys.length c0z0, vS A0z1 a0.Txns.length c0z1] rfl (by kernel_rfl) rfl hI ?_
  clear hI
  intro b3 _ hI
  refine oe 1 rfl ?_
  refine e_alloc 110 (.agg #[vS none 0 0, vS none 0 0]) [vS none 0 0, vS none 0 0] rfl (by kernel_rfl) rfl hI ?_
  clear hI
  intro b4 _ hI
  refine bp 2 1 (ro (go_seq (r_in (oe 0 rfl ?_))))
  refine e_alloc 110 (.agg #[vS none 0 0, vS none 0 0]) [vS none 0 0, vS none 0 0] rfl (by kernel_rfl) rfl hI ?_
  clear hI
  intro b6 _ hI
  refine ro (go_seq (go_seq (r_in (bg 0 [.l 0 0] (gA (hI.grp 0 rfl)) ?_))))
  replace H := bind_some H
  obtain ⟨y12, hy13, H⟩ := H
  refine oe 1 rfl ?_
  refine ec (enter17 _) (index_Check_calls a0 A0z0 c0z0 A0z1 c0z1 (memOf _) _ (Inv.start _) (hI.rd hr0z0) hl0z0 (hI.rd hr0z1) hl0z1 _ hy13) ?_
  rintro _ _ ⟨rfl, hI'⟩
  replace hI := hI.call0 hI'
  clear hI'
  refine ⟨_, rfl, ?_⟩
  refine bp 2 1 (ro (go_seq (rp 2 ?_)))
  replace H := cond_some H
  rcases H with ⟨hc14, H⟩ | ⟨hc14, H⟩
  · refine gt hc14 (go_seq (r_in (bg 0 [.l 0 0, .p] (gA (hI.grp 2 rfl)) (oe 2 rfl ?_))))
    refine e_store 110 _ _ 1 b4 110 [vS none 0 0, vS none 0 0] [vS none 0 0, vS none 0 0] 0 (.agg #[vS none 0 0, vS none 0 0]) rfl (by kernel_rfl) (by kernel_rfl) (by kernel_rfl) (by kernel_rfl) hI rfl (by kernel_rfl) (by kernel_rfl) ?_
    clear hI
    intro _ hI
    refine bp 3 1 (ro ?_)
    replace H := Option.some.inj H
    subst H
    exact go_return_c [(b4, 0, [vS none 0 0, vS none 0 0])] [.c 0, .t] [.agg #[vS none 0 0, vS none 0 0], vI y12] (.tuple #[.agg #[vS none 0 0, vS none 0 0], vI y12]) Try.func60 ⟨(hI.grp 1 rfl), trivial⟩ (by kernel_rfl) (by kernel_rfl) (by kernel_rfl) (by kernel_rfl) ⟨none, 0, none, 0, rfl, ((hI.nilrow kAsk 37).nilrow kSpot 160).pick [3, 4] (by decide) rfl⟩
  · refine ge hc14 (go_skip (go_seq (go_seq (rg [.p, .l 0 1, .p, .p] (gA (hI.grp 0 rfl)) (go_block ?_)))))
    refine go_iter (local_all.s1 a0) (fun (l230, l233, x236) f w => ∃ (j : Nat → Value) (A231 : Option Addr) (c232 : Nat) (A234 : Option Addr) (c235 : Nat), f = updL j [(1, vP b3 0), (2, vP b4 0), (4, vP b6 0), (15, vI (a0.Txns.length : Int)), (16, vI x236)] ∧ Inv M w [.blk b3 25 [vS A0z0 a0.Keys.length c0z0, vS A0z1 a0.Txns.length c0z1], .blk b4 110 [vS none 0 0, vS none 0 0], .blk b6 110 [vS A231 l230.length c232, vS A234 l233.length c235], .row kAsk 37 A231 l230.length c232 l230, .row kSpot 160 A234 l233.length c235 l233]) H ⟨_, none, 0, none, 0, at_, ((hI.nilrow kAsk 37).nilrow kSpot 160)⟩ ?_
    clear H hI
    rintro ⟨l230, l233, x236⟩ _ _ o1 H ⟨_, A231, c232, A234, c235, rfl, hI⟩ hin1 hout1
    refine go_seq (rp 1 (go_seq ?_))
    replace H := cond_some H
    rcases H with ⟨hc238, H⟩ | ⟨hc238, H⟩
    · refine gt hc238 (go_skip (go_seq (go_block (go_seq (rp 2 (r_in (bg 0 [.l 0 0, .p] (gA (hI.grp 0 rfl)) ?_)))))))
      replace H := bind_some H
      obtain ⟨y266, hy267, H⟩ := H
      obtain ⟨M261, hJ262, hs263, hro264, hback265⟩ := hI.call (R := [.blk b6 110 [vS A231 l230.length c232, vS A234 l233.length c235], .row kAsk 37 A231 l230.length c232 l230, .row kSpot 160 A234 l233.length c235 l233]) (L0 := [.blk b3 25 [vS A0z0 a0.Keys.length c0z0, vS A0z1 a0.Txns.length c0z1], .blk b4 110 [vS none 0 0, vS none 0 0]]) [2, 3, 4] [0, 1] (by decide) rfl
      refine oe 2 rfl ?_
      refine ec (enter88 _) (local_found_look_calls b6 (⟨l230, l233⟩ : LocalFound) A231 c232 A234 c235 a0 A0z0 c0z0 A0z1 c0z1 x236 M261 _ hJ262 (rdS.mono hr0z0 hs263) hl0z0 (rdS.mono hr0z1 hs263) hl0z1 _ hy267) ?_
      rintro _ _ ⟨A268, c269, A270, c271, rfl, hI'⟩
      replace hI := hback265 _ _ hI'
      clear hI'
      refine ⟨_, rfl, ?_⟩
      refine ro (go_inBlock (rp 2 ?_))
      exact hin1 _ (Option.some.inj H).symm _ _ ⟨_, A268, c269, A270, c271, at_, hI.pick [3, 4, 0, 1, 2] (by decide) rfl⟩
    · refine ge hc238 ?_
      refine go_exit rfl ?_
      refine go_seq (r_in (bg 0 [.l 0 0] (gA (hI.grp 2 rfl)) (oe 1 rfl ?_)))
      refine e_store 110 _ _ 1 b4 110 [vS none 0 0, vS none 0 0] [vS A231 l230.length c232, vS A234 l233.length c235] 0 (.agg #[vS A231 l230.length c232, vS A234 l233.length c235]) rfl (by kernel_rfl) (by kernel_rfl) (by kernel_rfl) (by kernel_rfl) hI rfl (by kernel_rfl) (by kernel_rfl) ?_
      clear hI
      intro _ hI
      refine bp 2 1 (ro ?_)
      replace H := out_some H
      obtain ⟨_, H, he1⟩ := H
      have he := (hout1 _ he1).symm
      subst he
      replace H := Option.some.inj H
      subst H
      exact go_return_c [(b4, 0, [vS A231 l230.length c232, vS A234 l233.length c235])] [.c 0, .t] [.agg #[vS A231 l230.length c232, vS A234 l233.length c235], vI 0] (.tuple #[.agg #[vS A231 l230.length c232, vS A234 l233.length c235], vI 0]) Try.func60 ⟨(hI.grp 1 rfl), trivial⟩ (by kernel_rfl) (by kernel_rfl) (by kernel_rfl) (by kernel_rfl) ⟨A231, c232, A234, c235, rfl, hI.pick [3, 4] (by decide) rfl⟩
theorem enter32 (a : Array Value) : Sem.pureRun Try.prog (callFunc 32 a) = some (.enter 32 a) := by kernel_rfl
theorem local_Asks_calls (a0 : History) (A0z0 : Option Addr) (c0z0 : Nat) (A0z1 : Option Addr) (c0z1 : Nat) (M : Mem) (w : World) (hI : Inv M w []) (hr0z0 : rdS tStr M.blk A0z0 a0.Keys) (hl0z0 : a0.Keys.length ≤ c0z0) (hr0z1 : rdS kTxn M.blk A0z1 a0.Txns) (hl0z1 : a0.Txns.length ≤ c0z1) (r : List Ask × Int) (H : local_Asks a0 = some r) :
    Calls Try.prog 32 #[.agg #[vS A0z0 a0.Keys.length c0z0, vS A0z1 a0.Txns.length c0z1]] w fun e w' => ∃ (A18 : Option Addr), ∃ (c19 : Nat), e = .returned (.tuple #[vS A18 r.1.length c19, vI r.2]) ∧ Inv M w' [.row kAsk 37 A18 r.1.length c19 r.1] := by
  refine cg Try.func32 ?_
  intro cs
  unfold local_Asks at H
  refine go_seq (r_in (oe 0 rfl ?_))
  refine e_box 25 _ (.agg #[vS A0z0 a0.Keys.length c0z0, vS A0z1 a0.Txns.length c0z1]) [vS A0z0 a0.Keys.length c0z0, vS A0z1 a0.Txns.length c0z1] rfl (by kernel_rfl) rfl hI ?_
  clear hI
  intro b2 _ hI
  refine bp 1 2 (ro (go_seq (r_in (bg 0 [.l 0 0] (gA (hI.grp 0 rfl)) ?_))))
  replace H := bind_some H
  obtain ⟨y10, hy11, H⟩ := H
  refine oe 1 rfl ?_
  refine ec (enter60 _) (local_all_calls a0 A0z0 c0z0 A0z1 c0z1 (memOf _) _ (Inv.start _) (hI.rd hr0z0) hl0z0 (hI.rd hr0z1) hl0z1 _ hy11) ?_
  rintro _ _ ⟨A12, c13, A14, c15, rfl, hI'⟩
  replace hI := hI.call0 hI'
  clear hI'
  refine ⟨_, rfl, ?_⟩
  refine bp 2 3 (oe 5 rfl ?_)
  refine e_alloc 110 (.agg #[vS none 0 0, vS none 0 0]) [vS none 0 0, vS none 0 0] rfl (by kernel_rfl) rfl hI ?_
  clear hI
  intro b16 _ hI
  refine oe 6 rfl ?_
  refine e_store 110 _ _ 3 b16 110 [vS none 0 0, vS none 0 0] [vS A12 y10.1.asks.length c13, vS A14 y10.1.bad.length c15] 0 (.agg #[vS A12 y10.1.asks.length c13, vS A14 y10.1.bad.length c15]) rfl (by kernel_rfl) (by kernel_rfl) (by kernel_rfl) (by kernel_rfl) hI rfl (by kernel_rfl) (by kernel_rfl) ?_
  clear hI
  intro _ hI
  refine bp 7 1 (ro (go_seq (rg [.p, .l 0 0, .p, .p, .p] (gA (hI.grp 3 rfl)) ?_)))
  replace H := Option.some.inj H
  subst H
  exact gr Try.func32 ⟨A12, c13, rfl, hI.pick [1] (by decide) rfl⟩
theorem enter21 (a : Array Value) : Sem.pureRun Try.prog (callFunc 21 a) = some (.enter 21 a) := by kernel_rfl
theorem index_Type_calls (a0 : History) (A0z0 : Option Addr) (c0z0 : Nat) (A0z1 : Option Addr) (c0z1 : Nat) (a1 : Int) (M : Mem) (w : World) (hI : Inv M w []) (hr0z0 : rdS tStr M.blk A0z0 a0.Keys) (hl0z0 : a0.Keys.length ≤ c0z0) (hr0z1 : rdS kTxn M.blk A0z1 a0.Txns) (hl0z1 : a0.Txns.length ≤ c0z1) (r : Int) (H : index_Type a0 a1 = some r) :
    Calls Try.prog 21 #[.agg #[vS A0z0 a0.Keys.length c0z0, vS A0z1 a0.Txns.length c0z1], vI a1] w fun e w' => e = .returned (vI r) ∧ Inv M w' [] := by
  refine cg Try.func21 ?_
  intro cs
  unfold index_Type at H
  refine go_seq (r_in (oe 0 rfl ?_))
  refine e_box 25 _ (.agg #[vS A0z0 a0.Keys.length c0z0, vS A0z1 a0.Txns.length c0z1]) [vS A0z0 a0.Keys.length c0z0, vS A0z1 a0.Txns.length c0z1] rfl (by kernel_rfl) rfl hI ?_
  clear hI
  intro b2 _ hI
  refine bp 1 1 (ro (go_seq (go_seq (r_in (bg 0 [.l 0 0] (gA (hI.grp 0 rfl)) ?_)))))
  replace H := bind_some H
  obtain ⟨y8, hy9, H⟩ := H
  refine oe 1 rfl ?_
  refine ec (enter17 _) (index_Check_calls a0 A0z0 c0z0 A0z1 c0z1 (memOf _) _ (Inv.start _) (hI.rd hr0z0) hl0z0 (hI.rd hr0z1) hl0z1 _ hy9) ?_
  rintro _ _ ⟨rfl, hI'⟩
  replace hI := hI.call0 hI'
  clear hI'
  refine ⟨_, rfl, ?_⟩
  refine bp 2 1 (ro ?_)
  replace H := cond_some H
  rcases H with ⟨hc10, H⟩ | ⟨hc10, H⟩
  · refine gt hc10 (go_seq (rp 1 ?_))
    replace H := Option.some.inj H
    subst H
    exact gr Try.func21 ⟨rfl, hI.pn⟩
  · refine ge hc10 (go_skip (go_seq (go_seq (rg [.p, .l 0 1, .p, .p] (gA (hI.grp 0 rfl)) (go_block ?_)))))
    refine go_iter (index_Type.s1 a0 a1) (fun x532 f w => ∃ (j : Nat → Value), f = updL j [(1, vI a1), (13, vS A0z1 a0.Txns.length c0z1), (14, vI (a0.Txns.length : Int)), (15, vI x532)] ∧ Inv M w []) H ⟨_, at_, hI.pn⟩ ?_
    clear H hI
    rintro x532 _ _ o1 H ⟨_, rfl, hI⟩ hin1 hout1
    refine go_seq (rp 1 (go_seq ?_))
    replace H := cond_some H
    rcases H with ⟨hc534, H⟩ | ⟨hc534, H⟩
    · refine gt hc534 (go_skip (go_seq (go_block (go_seq (r_in ?_)))))
      replace H := must_some H
      obtain ⟨g670, H⟩ := H
      obtain ⟨b674, q675, rfl, cs673, hk672, hg671⟩ := rdS.open hr0z1 rfl g670
      obtain ⟨_, _, rfl, rfl, ⟨_, _, rfl, rfl, ⟨_, _, rfl, rfl, ⟨_, _, rfl, rfl, ⟨A676, c677, rfl, hl679, hr678⟩⟩⟩⟩⟩ := hk672
      refine bx 0 [.x, .l 0 0] (gA (hI.lies hg671)) _ (bZ g670) (oe 2 rfl ?_)
      refine e_alloc 41 (.agg #[vI 0, vI 0, vI 0, vI 0, vS none 0 0]) [vI 0, vI 0, vI 0, vI 0, vS none 0 0] rfl (by kernel_rfl) rfl hI ?_
      clear hI
      intro b680 _ hI
      refine oe 3 rfl ?_
      refine e_store 41 _ _ 0 b680 41 [vI 0, vI 0, vI 0, vI 0, vS none 0 0] [vI ((idx a0.Txns x532).Proc), vI ((idx a0.Txns x532).Status), vI ((idx a0.Txns x532).From), vI ((idx a0.Txns x532).To), vS A676 (((idx a0.Txns x532).Ops).length) c677] 0 (.agg #[vI ((idx a0.Txns x532).Proc), vI ((idx a0.Txns x532).Status), vI ((idx a0.Txns x532).From), vI ((idx a0.Txns x532).To), vS A676 (((idx a0.Txns x532).Ops).length) c677]) rfl (by kernel_rfl) (by kernel_rfl) (by kernel_rfl) (by kernel_rfl) hI rfl (by kernel_rfl) (by kernel_rfl) ?_
      clear hI
      intro _ hI
      refine ro (go_seq (rg [.p, .l 0 4, .p, .p] (gA (hI.grp 0 rfl)) (go_block ?_)))
      refine go_iter (index_Type.s2 a0 a1 x532) (fun x767 f w => ∃ (j : Nat → Value), f = updL j [(1, vI a1), (13, vS (some ⟨b674, q675, none⟩) a0.Txns.length c0z1), (14, vI (a0.Txns.length : Int)), (15, vI x532), (20, vS A676 (((idx a0.Txns x532).Ops).length) c677), (21, vI (((idx a0.Txns x532).Ops).length : Int)), (22, vI x767)] ∧ Inv M w []) H ⟨_, at_, hI.pn⟩ ?_
      clear H hI
      rintro x767 _ _ o2 H ⟨_, rfl, hI⟩ hin2 hout2
      refine go_seq (rp 1 (go_seq ?_))
      replace H := cond_some H
      rcases H with ⟨hc769, H⟩ | ⟨hc769, H⟩
      · refine gt hc769 (go_skip (go_seq (go_block (go_seq (r_in ?_)))))
        replace H := must_some H
        obtain ⟨g809, H⟩ := H
        obtain ⟨b813, q814, rfl, cs812, hk811, hg810⟩ := rdS.open hr678 rfl g809
        obtain ⟨_, _, rfl, rfl, ⟨_, _, rfl, rfl, ⟨_, _, rfl, rfl, ⟨_, _, rfl, rfl, ⟨A815, c816, rfl, hl818, hr817⟩⟩⟩⟩⟩ := hk811
        refine bx 0 [.x, .l 0 0] (gA (hI.lies hg810)) _ (bZ g809) (oe 2 rfl ?_)
        refine e_alloc 64 (.agg #[vI 0, vI 0, vI 0, vB false, vS none 0 0]) [vI 0, vI 0, vI 0, vB false, vS none 0 0] rfl (by kernel_rfl) rfl hI ?_
        clear hI
        intro b819 _ hI
        refine oe 3 rfl ?_
        refine e_store 64 _ _ 0 b819 64 [vI 0, vI 0, vI 0, vB false, vS none 0 0] [vI ((idx ((idx a0.Txns x532).Ops) x767).Kind), vI ((idx ((idx a0.Txns x532).Ops) x767).Key), vI ((idx ((idx a0.Txns x532).Ops) x767).Arg), vB ((idx ((idx a0.Txns x532).Ops) x767).Got), vS A815 (((idx ((idx a0.Txns x532).Ops) x767).Vals).length) c816] 0 (.agg #[vI ((idx ((idx a0.Txns x532).Ops) x767).Kind), vI ((idx ((idx a0.Txns x532).Ops) x767).Key), vI ((idx ((idx a0.Txns x532).Ops) x767).Arg), vB ((idx ((idx a0.Txns x532).Ops) x767).Got), vS A815 (((idx ((idx a0.Txns x532).Ops) x767).Vals).length) c816]) rfl (by kernel_rfl) (by kernel_rfl) (by kernel_rfl) (by kernel_rfl) hI rfl (by kernel_rfl) (by kernel_rfl) ?_
        clear hI
        intro _ hI
        refine ro (go_seq (rg [.p, .l 0 1, .p, .p] (gA (hI.grp 0 rfl)) ?_))
        replace H := cond_some H
        rcases H with ⟨hc820, H⟩ | ⟨hc820, H⟩
        · refine gt hc820 (go_seq (r_in (bg 0 [.p, .l 0 0] (gA (hI.grp 0 rfl)) ?_)))
          replace H := bind_some H
          obtain ⟨y823, hy824, H⟩ := H
          refine oe 2 rfl ?_
          refine ec (enter47 _) (index_typeOf_calls ((idx ((idx a0.Txns x532).Ops) x767).Kind) (memOf _) _ (Inv.start _) _ hy824) ?_
          rintro _ _ ⟨rfl, hI'⟩
          replace hI := hI.call0 hI'
          clear hI'
          refine ⟨_, rfl, ?_⟩
          refine bp 3 1 (ro ?_)
          replace H := out_some H
          obtain ⟨_, H, he2⟩ := H
          have he := (hout2 _ he2).symm
          subst he
          replace H := out_some H
          obtain ⟨_, H, he1⟩ := H
          have he := (hout1 _ he1).symm
          subst he
          replace H := Option.some.inj H
          subst H
          exact gr Try.func21 ⟨rfl, hI.pn⟩
        · refine ge hc820 (go_skip (go_inBlock (rp 2 ?_)))
          exact hin2 _ (Option.some.inj H).symm _ _ ⟨_, at_, hI.pn⟩
      · refine ge hc769 ?_
        refine go_exit rfl ?_
        refine go_inBlock (rp 2 ?_)
        replace H := out_some H
        obtain ⟨_, H, he2⟩ := H
        have he := (hout2 _ he2).symm
        subst he
        exact hin1 _ (Option.some.inj H).symm _ _ ⟨_, at_, hI⟩
    · refine ge hc534 ?_
      refine go_exit rfl ?_
      refine go_seq (rp 1 ?_)
      replace H := out_some H
      obtain ⟨_, H, he1⟩ := H
      have he := (hout1 _ he1).symm
      subst he
      replace H := Option.some.inj H
      subst H
      exact gr Try.func21 ⟨rfl, hI⟩
theorem enter45 (a : Array Value) : Sem.pureRun Try.prog (callFunc 45 a) = some (.enter 45 a) := by kernel_rfl
theorem index_wrote_calls (a0 : Txn) (A0z0 : Option Addr) (c0z0 : Nat) (a1 : Int) (M : Mem) (w : World) (hI : Inv M w []) (hr0z0 : rdS kOp M.blk A0z0 a0.Ops) (hl0z0 : a0.Ops.length ≤ c0z0) (r : List Int) (H : index_wrote a0 a1 = some r) :
    Calls Try.prog 45 #[.agg #[vI a0.Proc, vI a0.Status, vI a0.From, vI a0.To, vS A0z0 a0.Ops.length c0z0], vI a1] w fun e w' => ∃ (A339 : Option Addr), ∃ (c340 : Nat), e = .returned (vS A339 r.length c340) ∧ Inv M w' [.row (tInt .i64) 2 A339 r.length c340 r] := by
  refine cg Try.func45 ?_
  intro cs
  unfold index_wrote at H
  refine go_seq (r_in (oe 0 rfl ?_))
  refine e_box 41 _ (.agg #[vI a0.Proc, vI a0.Status, vI a0.From, vI a0.To, vS A0z0 a0.Ops.length c0z0]) [vI a0.Proc, vI a0.Status, vI a0.From, vI a0.To, vS A0z0 a0.Ops.length c0z0] rfl (by kernel_rfl) rfl hI ?_
  clear hI
  intro b2 _ hI
  refine bp 1 1 (ro (go_seq (rp 1 (go_seq (go_seq (rg [.p, .l 0 4, .p, .p] (gA (hI.grp 0 rfl)) (go_block ?_)))))))
  refine go_iter (index_wrote.s1 a0 a1) (fun (l255, x258) f w => ∃ (j : Nat → Value) (A256 : Option Addr) (c257 : Nat), f = updL j [(1, vI a1), (5, vS A256 l255.length c257), (9, vS A0z0 a0.Ops.length c0z0), (10, vI (a0.Ops.length : Int)), (11, vI x258)] ∧ Inv M w [.row (tInt .i64) 2 A256 l255.length c257 l255]) H ⟨_, none, 0, at_, (hI.nilrow (tInt .i64) 2).pick [1] (by decide) rfl⟩ ?_
  clear H hI
  rintro ⟨l255, x258⟩ _ _ o1 H ⟨_, A256, c257, rfl, hI⟩ hin1 hout1
  refine go_seq (rp 1 (go_seq ?_))
  replace H := cond_some H
  rcases H with ⟨hc260, H⟩ | ⟨hc260, H⟩
  · refine gt hc260 (go_skip (go_seq ?_))
    refine go_block_join (o := o1) (fun l302 f w => ∃ (j : Nat → Value) (A303 : Option Addr) (c304 : Nat), f = updL j [(1, vI a1), (5, vS A303 l302.length c304), (9, vS A0z0 a0.Ops.length c0z0), (10, vI (a0.Ops.length : Int)), (11, vI x258)] ∧ Inv M w [.row (tInt .i64) 2 A303 l302.length c304 l302]) (fun l302 => index_wrote.j2 x258 l302) ?_ (fun hJ305 => ?_)
    · clear H hI
      rintro l302 _ _ ⟨_, A303, c304, rfl, hI⟩ H
      refine rp 2 ?_
      exact hin1 _ (Option.some.inj H).symm _ _ ⟨_, A303, c304, at_, hI⟩
    · refine go_seq (r_in ?_)
      replace H := must_some H
      obtain ⟨g317, H⟩ := H
      obtain ⟨b321, q322, rfl, cs320, hk319, hg318⟩ := rdS.open hr0z0 rfl g317
      obtain ⟨_, _, rfl, rfl, ⟨_, _, rfl, rfl, ⟨_, _, rfl, rfl, ⟨_, _, rfl, rfl, ⟨A323, c324, rfl, hl326, hr325⟩⟩⟩⟩⟩ := hk319
      refine bx 0 [.x, .l 0 0] (gA (hI.lies hg318)) _ (bZ g317) (oe 2 rfl ?_)
      refine e_alloc 64 (.agg #[vI 0, vI 0, vI 0, vB false, vS none 0 0]) [vI 0, vI 0, vI 0, vB false, vS none 0 0] rfl (by kernel_rfl) rfl hI ?_
      clear hI
      intro b327 _ hI
      refine oe 3 rfl ?_
      refine e_store 64 _ _ 1 b327 64 [vI 0, vI 0, vI 0, vB false, vS none 0 0] [vI ((idx a0.Ops x258).Kind), vI ((idx a0.Ops x258).Key), vI ((idx a0.Ops x258).Arg), vB ((idx a0.Ops x258).Got), vS A323 (((idx a0.Ops x258).Vals).length) c324] 0 (.agg #[vI ((idx a0.Ops x258).Kind), vI ((idx a0.Ops x258).Key), vI ((idx a0.Ops x258).Arg), vB ((idx a0.Ops x258).Got), vS A323 (((idx a0.Ops x258).Vals).length) c324]) rfl (by kernel_rfl) (by kernel_rfl) (by kernel_rfl) (by kernel_rfl) hI rfl (by kernel_rfl) (by kernel_rfl) ?_
      clear hI
      intro _ hI
      refine ro ?_
      refine go_seq_join (o := o1) (fun b329 f w => ∃ (j : Nat → Value), f = updL j [(1, vI a1), (5, vS A256 l255.length c257), (7, vP b327 0), (9, vS (some ⟨b321, q322, none⟩) a0.Ops.length c0z0), (10, vI (a0.Ops.length : Int)), (11, vI x258), (23, vB b329)] ∧ Inv M w [.row (tInt .i64) 2 A256 l255.length c257 l255, .blk b327 64 [vI ((idx a0.Ops x258).Kind), vI ((idx a0.Ops x258).Key), vI ((idx a0.Ops x258).Arg), vB ((idx a0.Ops x258).Got), vS A323 (((idx a0.Ops x258).Vals).length) c324]]) (fun b329 => index_wrote.j3 a0 l255 x258 b329) ?_ (fun hJ330 => ?_)
      · clear H hI
        rintro b329 _ _ ⟨_, rfl, hI⟩ H
        replace H := cond_some H
        rcases H with ⟨hc331, H⟩ | ⟨hc331, H⟩
        · refine gt hc331 (r_in (bg 0 [.p, .p, .l 0 2] (gA (hI.grp 1 rfl)) (oe 3 rfl ?_)))
          refine e_partsS 35 2 1 _ _ _ #[vI ((idx a0.Ops x258).Arg)] [vI ((idx a0.Ops x258).Arg)] rfl rfl rfl rfl (by kernel_rfl) (by kernel_rfl) (by kernel_rfl) (by kernel_rfl) hI ?_
          clear hI
          intro b332 _ hs333 hI
          replace H := must_some H
          obtain ⟨g334, H⟩ := H
          refine oe 4 rfl ?_
          refine e_append (tInt .i64) 35 0 2 _ _ _ _ A256 l255.length c257 l255 ([(idx a0.Ops x258).Arg] : List Int) b332 0 1 1 [vI ((idx a0.Ops x258).Arg)] 0 [] [1, 2] [] [.blk b327 64 [vI ((idx a0.Ops x258).Kind), vI ((idx a0.Ops x258).Key), vI ((idx a0.Ops x258).Arg), vB ((idx a0.Ops x258).Got), vS A323 (((idx a0.Ops x258).Vals).length) c324], .blk b332 2 [vI ((idx a0.Ops x258).Arg)]] rfl (by kernel_rfl) (by kernel_rfl) rfl rfl rfl rfl rfl (by kernel_rfl) hI (by decide) rfl rfl rfl (hI.grp 2 rfl) g334 (mks_cons (mk_flat (k := (tInt .i64)) ((idx a0.Ops x258).Arg) [vI ((idx a0.Ops x258).Arg)] rfl) mks_nil) ?_
          clear hI
          intro A335 c336 _ hI
          replace hI := hI.pick (L' := [.row (tInt .i64) 2 A335 ((l255 ++ ([(idx a0.Ops x258).Arg] : List Int)).length) c336 (l255 ++ ([(idx a0.Ops x258).Arg] : List Int)), .blk b327 64 [vI ((idx a0.Ops x258).Kind), vI ((idx a0.Ops x258).Key), vI ((idx a0.Ops x258).Arg), vB ((idx a0.Ops x258).Got), vS A323 (((idx a0.Ops x258).Vals).length) c324]]) [0, 1] (by decide) rfl
          refine bp 5 1 (ro (go_inBlock ?_))
          exact hJ305 (l255 ++ ([(idx a0.Ops x258).Arg] : List Int)) _ _ ⟨_, A335, c336, at_, hI.pick [0] (by decide) rfl⟩ H
        · refine ge hc331 (go_skip (go_inBlock ?_))
          exact hJ305 l255 _ _ ⟨_, A256, c257, at_, hI.pick [0] (by decide) rfl⟩ H
      · refine r_in ?_
        replace H := cond_some H
        rcases H with ⟨hc337, H⟩ | ⟨hc337, H⟩
        · refine bx 0 [.p, .l 0 1, .p, .p, .c true, .p, .l 0 0, .p, .p] (gA (hI.grp 1 rfl)) _ (bZ (bndEq hc337)) (ro ?_)
          exact hJ330 (decide ((idx a0.Ops x258).Kind ≤ 4)) _ _ ⟨_, at_, hI⟩ H
        · refine bx 0 [.p, .l 0 1, .p, .p, .c false, .p, .p, .p, .p] (gA (hI.grp 1 rfl)) _ (bZ (bndEq hc337)) (ro ?_)
          exact hJ330 false _ _ ⟨_, at_, hI⟩ H
  · refine ge hc260 ?_
    refine go_exit rfl ?_
    refine go_seq (rp 2 ?_)
    replace H := out_some H
    obtain ⟨_, H, he1⟩ := H
    have he := (hout1 _ he1).symm
    subst he
    replace H := Option.some.inj H
    subst H
    exact gr Try.func45 ⟨A256, c257, rfl, hI⟩
theorem enter19 (a : Array Value) : Sem.pureRun Try.prog (callFunc 19 a) = some (.enter 19 a) := by kernel_rfl
theorem index_Writers_calls (a0 : History) (A0z0 : Option Addr) (c0z0 : Nat) (A0z1 : Option Addr) (c0z1 : Nat) (a1 : Int) (M : Mem) (w : World) (hI : Inv M w []) (hr0z0 : rdS tStr M.blk A0z0 a0.Keys) (hl0z0 : a0.Keys.length ≤ c0z0) (hr0z1 : rdS kTxn M.blk A0z1 a0.Txns) (hl0z1 : a0.Txns.length ≤ c0z1) (r : List Int) (H : index_Writers a0 a1 = some r) :
    Calls Try.prog 19 #[.agg #[vS A0z0 a0.Keys.length c0z0, vS A0z1 a0.Txns.length c0z1], vI a1] w fun e w' => ∃ (A395 : Option Addr), ∃ (c396 : Nat), e = .returned (vS A395 r.length c396) ∧ Inv M w' [.row (tInt .i64) 3 A395 r.length c396 r] := by
  refine cg Try.func19 ?_
  intro cs
  unfold index_Writers at H
  refine go_seq (r_in (oe 0 rfl ?_))
  refine e_box 25 _ (.agg #[vS A0z0 a0.Keys.length c0z0, vS A0z1 a0.Txns.length c0z1]) [vS A0z0 a0.Keys.length c0z0, vS A0z1 a0.Txns.length c0z1] rfl (by kernel_rfl) rfl hI ?_
  clear hI
  intro b2 _ hI
  refine bp 1 1 (ro (go_seq (go_seq (r_in (bg 0 [.l 0 0] (gA (hI.grp 0 rfl)) ?_)))))
  replace H := bind_some H
  obtain ⟨y8, hy9, H⟩ := H
  refine oe 1 rfl ?_
  refine ec (enter17 _) (index_Check_calls a0 A0z0 c0z0 A0z1 c0z1 (memOf _) _ (Inv.start _) (hI.rd hr0z0) hl0z0 (hI.rd hr0z1) hl0z1 _ hy9) ?_
  rintro _ _ ⟨rfl, hI'⟩
  replace hI := hI.call0 hI'
  clear hI'
  refine ⟨_, rfl, ?_⟩
  refine bp 2 1 (ro ?_)
  replace H := cond_some H
  rcases H with ⟨hc10, H⟩ | ⟨hc10, H⟩
  · refine gt hc10 (go_seq (rp 1 ?_))
    replace H := Option.some.inj H
    subst H
    exact gr Try.func19 ⟨none, 0, rfl, (hI.nilrow (tInt .i64) 3).pick [1] (by decide) rfl⟩
  · refine ge hc10 (go_skip (go_seq (rp 1 (go_seq (go_seq (rg [.p, .l 0 1, .p, .p] (gA (hI.grp 0 rfl)) (go_block ?_)))))))
    refine go_iter (index_Writers.s1 a0 a1) (fun (l295, x298) f w => ∃ (j : Nat → Value) (A296 : Option Addr) (c297 : Nat), f = updL j [(1, vI a1), (5, vS A296 l295.length c297), (12, vS A0z1 a0.Txns.length c0z1), (13, vI (a0.Txns.length : Int)), (14, vI x298)] ∧ Inv M w [.row (tInt .i64) 3 A296 l295.length c297 l295]) H ⟨_, none, 0, at_, (hI.nilrow (tInt .i64) 3).pick [1] (by decide) rfl⟩ ?_
    clear H hI
    rintro ⟨l295, x298⟩ _ _ o1 H ⟨_, A296, c297, rfl, hI⟩ hin1 hout1
    refine go_seq (rp 1 (go_seq ?_))
    replace H := cond_some H
    rcases H with ⟨hc300, H⟩ | ⟨hc300, H⟩
    · refine gt hc300 (go_skip (go_seq ?_))
      refine go_block_join (o := o1) (fun l350 f w => ∃ (j : Nat → Value) (A351 : Option Addr) (c352 : Nat), f = updL j [(1, vI a1), (5, vS A351 l350.length c352), (12, vS A0z1 a0.Txns.length c0z1), (13, vI (a0.Txns.length : Int)), (14, vI x298)] ∧ Inv M w [.row (tInt .i64) 3 A351 l350.length c352 l350]) (fun l350 => index_Writers.j2 x298 l350) ?_ (fun hJ353 => ?_)
      · clear H hI
        rintro l350 _ _ ⟨_, A351, c352, rfl, hI⟩ H
        refine rp 2 ?_
        exact hin1 _ (Option.some.inj H).symm _ _ ⟨_, A351, c352, at_, hI⟩
      · refine go_seq (r_in ?_)
        replace H := must_some H
        obtain ⟨g365, H⟩ := H
        obtain ⟨b369, q370, rfl, cs368, hk367, hg366⟩ := rdS.open hr0z1 rfl g365
        obtain ⟨_, _, rfl, rfl, ⟨_, _, rfl, rfl, ⟨_, _, rfl, rfl, ⟨_, _, rfl, rfl, ⟨A371, c372, rfl, hl374, hr373⟩⟩⟩⟩⟩ := hk367
        refine bx 0 [.p, .x, .l 0 0] (gA (hI.lies hg366)) _ (bZ g365) (oe 3 rfl ?_)
        refine e_alloc 41 (.agg #[vI 0, vI 0, vI 0, vI 0, vS none 0 0]) [vI 0, vI 0, vI 0, vI 0, vS none 0 0] rfl (by kernel_rfl) rfl hI ?_
        clear hI
        intro b375 _ hI
        refine bp 4 1 (oe 5 rfl ?_)
        refine e_store 41 _ _ 1 b375 41 [vI 0, vI 0, vI 0, vI 0, vS none 0 0] [vI ((idx a0.Txns x298).Proc), vI ((idx a0.Txns x298).Status), vI ((idx a0.Txns x298).From), vI ((idx a0.Txns x298).To), vS A371 (((idx a0.Txns x298).Ops).length) c372] 0 (.agg #[vI ((idx a0.Txns x298).Proc), vI ((idx a0.Txns x298).Status), vI ((idx a0.Txns x298).From), vI ((idx a0.Txns x298).To), vS A371 (((idx a0.Txns x298).Ops).length) c372]) rfl (by kernel_rfl) (by kernel_rfl) (by kernel_rfl) (by kernel_rfl) hI rfl (by kernel_rfl) (by kernel_rfl) ?_
        clear hI
        intro _ hI
        refine ro ?_
        refine go_seq_join (o := o1) (fun b381 f w => ∃ (j : Nat → Value), f = updL j [(1, vI a1), (5, vS A296 l295.length c297), (6, vI x298), (12, vS (some ⟨b369, q370, none⟩) a0.Txns.length c0z1), (13, vI (a0.Txns.length : Int)), (14, vI x298), (28, vB b381)] ∧ Inv M w [.row (tInt .i64) 3 A296 l295.length c297 l295]) (fun b381 => index_Writers.j3 l295 x298 b381) ?_ (fun hJ382 => ?_)
        · clear H hI
          rintro b381 _ _ ⟨_, rfl, hI⟩ H
          replace H := cond_some H
          rcases H with ⟨hc383, H⟩ | ⟨hc383, H⟩
          · refine gt hc383 (r_in (bp 0 2 (oe 2 rfl ?_)))
            refine e_partsS 32 3 1 _ _ _ #[vI x298] [vI x298] rfl rfl rfl rfl (by kernel_rfl) (by kernel_rfl) (by kernel_rfl) (by kernel_rfl) hI ?_
            clear hI
            intro b384 _ hs385 hI
            replace H := must_some H
            obtain ⟨g386, H⟩ := H
            refine oe 3 rfl ?_
            refine e_append (tInt .i64) 32 0 3 _ _ _ _ A296 l295.length c297 l295 ([x298] : List Int) b384 0 1 1 [vI x298] 0 [] [1] [] [.blk b384 3 [vI x298]] rfl (by kernel_rfl) (by kernel_rfl) rfl rfl rfl rfl rfl (by kernel_rfl) hI (by decide) rfl rfl rfl (hI.grp 1 rfl) g386 (mks_cons (mk_flat (k := (tInt .i64)) x298 [vI x298] rfl) mks_nil) ?_
            clear hI
            intro A387 c388 _ hI
            replace hI := hI.pick (L' := [.row (tInt .i64) 3 A387 ((l295 ++ ([x298] : List Int)).length) c388 (l295 ++ ([x298] : List Int))]) [0] (by decide) rfl
            refine bp 4 1 (ro (go_inBlock ?_))
            exact hJ353 (l295 ++ ([x298] : List Int)) _ _ ⟨_, A387, c388, at_, hI⟩ H
          · refine ge hc383 (go_skip (go_inBlock ?_))
            exact hJ353 l295 _ _ ⟨_, A296, c297, at_, hI⟩ H
        · refine r_in ?_
          replace H := cond_some H
          rcases H with ⟨hc389, H⟩ | ⟨hc389, H⟩
          · refine bx 0 [.p, .l 0 1, .p, .c true, .l 0 0, .p] (gA (hI.grp 1 rfl)) _ (bZ (bndEq hc389)) ?_
            replace H := bind_some H
            obtain ⟨y390, hy391, H⟩ := H
            refine oe 6 rfl ?_
            refine ec (enter45 _) (index_wrote_calls (idx a0.Txns x298) A371 c372 a1 (memOf _) _ (Inv.start _) (hI.rd hr373) hl374 _ hy391) ?_
            rintro _ _ ⟨A392, c393, rfl, hI'⟩
            replace hI := hI.call0 hI'
            clear hI'
            refine ⟨_, rfl, ?_⟩
            refine bp 7 3 (ro ?_)
            exact hJ382 (decide ((y390.length : Int) > 0)) _ _ ⟨_, at_, hI.pick [0] (by decide) rfl⟩ H
          · refine bx 0 [.p, .l 0 1, .p, .c false, .p, .p, .p, .p, .p, .p] (gA (hI.grp 1 rfl)) _ (bZ (bndEq hc389)) (ro ?_)
            exact hJ382 false _ _ ⟨_, at_, hI.pick [0] (by decide) rfl⟩ H
    · refine ge hc300 ?_
      refine go_exit rfl ?_
      refine go_seq (rp 2 ?_)
      replace H := out_some H
      obtain ⟨_, H, he1⟩ := H
      have he := (hout1 _ he1).symm
      subst he
      replace H := Option.some.inj H
      subst H
      exact gr Try.func19 ⟨A296, c297, rfl, hI⟩
theorem enter22 (a : Array Value) : Sem.pureRun Try.prog (callFunc 22 a) = some (.enter 22 a) := by kernel_rfl
theorem index_Final_calls (a0 : History) (A0z0 : Option Addr) (c0z0 : Nat) (A0z1 : Option Addr) (c0z1 : Nat) (a1 : Int) (a2 : Int) (M : Mem) (w : World) (hI : Inv M w []) (hr0z0 : rdS tStr M.blk A0z0 a0.Keys) (hl0z0 : a0.Keys.length ≤ c0z0) (hr0z1 : rdS kTxn M.blk A0z1 a0.Txns) (hl0z1 : a0.Txns.length ≤ c0z1) (r : List Int × Bool) (H : index_Final a0 a1 a2 = some r) :
    Calls Try.prog 22 #[.agg #[vS A0z0 a0.Keys.length c0z0, vS A0z1 a0.Txns.length c0z1], vI a1, vI a2] w fun e w' => ∃ (A49 : Option Addr), ∃ (c50 : Nat), e = .returned (.tuple #[vS A49 r.1.length c50, vB r.2]) ∧ Inv M w' [.row (tInt .i64) 2 A49 r.1.length c50 r.1] := by
  refine cg Try.func22 ?_
  intro cs
  unfold index_Final at H
  refine go_seq (r_in (oe 0 rfl ?_))
  refine e_box 25 _ (.agg #[vS A0z0 a0.Keys.length c0z0, vS A0z1 a0.Txns.length c0z1]) [vS A0z0 a0.Keys.length c0z0, vS A0z1 a0.Txns.length c0z1] rfl (by kernel_rfl) rfl hI ?_
  clear hI
  intro b2 _ hI
  refine bp 1 2 (ro (go_seq ?_))
  refine go_seq_join (o := r) (fun b13 f w => ∃ (j : Nat → Value), f = updL j [(1, vI a1), (2, vI a2), (3, vP b2 0), (22, vB b13)] ∧ Inv M w [.blk b2 25 [vS A0z0 a0.Keys.length c0z0, vS A0z1 a0.Txns.length c0z1]]) (fun b13 => index_Final.j1 a0 a1 a2 b13) ?_ (fun hJ14 => ?_)
  · clear H hI
    rintro b13 _ _ ⟨_, rfl, hI⟩ H
    replace H := cond_some H
    rcases H with ⟨hc15, H⟩ | ⟨hc15, H⟩
    · refine gt hc15 (go_seq (rp 2 ?_))
      replace H := Option.some.inj H
      subst H
      exact gr Try.func22 ⟨none, 0, rfl, (hI.nilrow (tInt .i64) 2).pick [1] (by decide) rfl⟩
    · refine ge hc15 (go_skip (go_seq (r_in ?_)))
      replace H := must_some H
      obtain ⟨g30, H⟩ := H
      obtain ⟨b34, q35, rfl, cs33, hk32, hg31⟩ := rdS.open hr0z1 rfl g30
      obtain ⟨_, _, rfl, rfl, ⟨_, _, rfl, rfl, ⟨_, _, rfl, rfl, ⟨_, _, rfl, rfl, ⟨A36, c37, rfl, hl39, hr38⟩⟩⟩⟩⟩ := hk32
      refine bx 0 [.p, .l 0 1, .p, .x, .l 1 0, .p] (gB (hI.grp 0 rfl) (hI.lies hg31)) _ (bZ g30) ?_
      replace H := bind_some H
      obtain ⟨y40, hy41, H⟩ := H
      refine oe 6 rfl ?_
      refine ec (enter45 _) (index_wrote_calls (idx a0.Txns a1) A36 c37 a2 (memOf _) _ (Inv.start _) (hI.rd hr38) hl39 _ hy41) ?_
      rintro _ _ ⟨A42, c43, rfl, hI'⟩
      replace hI := hI.call0 hI'
      clear hI'
      refine ⟨_, rfl, ?_⟩
      refine bp 7 1 (ro (go_seq (rp 6 ?_)))
      replace H := Option.some.inj H
      subst H
      exact gr Try.func22 ⟨A42, c43, rfl, hI.pick [1] (by decide) rfl⟩
  · refine r_in ?_
    replace H := cond_some H
    rcases H with ⟨hc44, H⟩ | ⟨hc44, H⟩
    · refine bx 0 [.p, .p, .c true, .p, .p, .p, .p, .p, .p, .p, .p, .p, .p, .p] gO _ (bZ (bndEq hc44)) (ro ?_)
      exact hJ14 true _ _ ⟨_, at_, hI⟩ H
    · replace H := cond_some H
      rcases H with ⟨hc45, H⟩ | ⟨hc45, H⟩
      · refine bx 0 [.p, .p, .c false, .p, .p, .l 0 1, .p, .p, .p, .c true, .p, .p, .p, .p] (gA (hI.grp 0 rfl)) _ (bC (bndEq hc44) (bZ (bndEq hc45))) (ro ?_)
        exact hJ14 true _ _ ⟨_, at_, hI⟩ H
      · refine bx 0 [.p, .p, .c false, .p, .p, .l 0 1, .p, .p, .p, .c false, .l 0 0] (gA (hI.grp 0 rfl)) _ (bC (bndEq hc44) (bZ (bndEq hc45))) ?_
        replace H := bind_some H
        obtain ⟨y46, hy47, H⟩ := H
        refine oe 11 rfl ?_
        refine ec (enter17 _) (index_Check_calls a0 A0z0 c0z0 A0z1 c0z1 (memOf _) _ (Inv.start _) (hI.rd hr0z0) hl0z0 (hI.rd hr0z1) hl0z1 _ hy47) ?_
        rintro _ _ ⟨rfl, hI'⟩
        replace hI := hI.call0 hI'
        clear hI'
        refine ⟨_, rfl, ?_⟩
        refine bp 12 2 (ro ?_)
        exact hJ14 (y46 != 0) _ _ ⟨_, at_, hI⟩ H
theorem enter63 (a : Array Value) : Sem.pureRun Try.prog (callFunc 63 a) = some (.enter 63 a) := by kernel_rfl
theorem source_finals_calls (a0 : History) (A0z0 : Option Addr) (c0z0 : Nat) (A0z1 : Option Addr) (c0z1 : Nat) (a1 : Ask) (A1z0 : Option Addr) (c1z0 : Nat) (M : Mem) (w : World) (hI : Inv M w []) (hr0z0 : rdS tStr M.blk A0z0 a0.Keys) (hl0z0 : a0.Keys.length ≤ c0z0) (hr0z1 : rdS kTxn M.blk A0z1 a0.Txns) (hl0z1 : a0.Txns.length ≤ c0z1) (hr1z0 : rdS (tInt .i64) M.blk A1z0 a1.Base) (hl1z0 : a1.Base.length ≤ c1z0) (r : List SourceFinal) (H : source_finals a0 a1 = some r) :
    Calls Try.prog 63 #[.agg #[vS A0z0 a0.Keys.length c0z0, vS A0z1 a0.Txns.length c0z1], .agg #[vI a1.Txn, vI a1.Place, vI a1.Key, vS A1z0 a1.Base.length c1z0]] w fun e w' => ∃ (A293 : Option Addr), ∃ (c294 : Nat), e = .returned (vS A293 r.length c294) ∧ Inv M w' [.row kSourceFinal 118 A293 r.length c294 r] := by
  refine cg Try.func63 ?_
  intro cs
  unfold source_finals at H
  refine go_seq (r_in (oe 0 rfl ?_))
  refine e_box 25 _ (.agg #[vS A0z0 a0.Keys.length c0z0, vS A0z1 a0.Txns.length c0z1]) [vS A0z0 a0.Keys.length c0z0, vS A0z1 a0.Txns.length c0z1] rfl (by kernel_rfl) rfl hI ?_
  clear hI
  intro b3 _ hI
  refine oe 1 rfl ?_
  refine e_box 37 _ (.agg #[vI a1.Txn, vI a1.Place, vI a1.Key, vS A1z0 a1.Base.length c1z0]) [vI a1.Txn, vI a1.Place, vI a1.Key, vS A1z0 a1.Base.length c1z0] rfl (by kernel_rfl) rfl hI ?_
  clear hI
  intro b4 _ hI
  refine bp 2 1 (ro (go_seq (rp 1 (go_seq (go_seq (r_in (bg 0 [.l 0 0, .p, .l 1 2] (gB (hI.grp 0 rfl) (hI.grp 1 rfl)) ?_)))))))
  replace H := bind_some H
  obtain ⟨y91, hy92, H⟩ := H
  refine oe 3 rfl ?_
  refine ec (enter19 _) (index_Writers_calls a0 A0z0 c0z0 A0z1 c0z1 a1.Key (memOf _) _ (Inv.start _) (hI.rd hr0z0) hl0z0 (hI.rd hr0z1) hl0z1 _ hy92) ?_
  rintro _ _ ⟨A93, c94, rfl, hI'⟩
  replace hI := hI.call0 hI'
  clear hI'
  refine ⟨_, rfl, ?_⟩
  refine bp 4 2 (ro (go_block ?_))
  refine go_iter (source_finals.s1 a0 a1 y91) (fun (l229, x232) f w => ∃ (j : Nat → Value) (A230 : Option Addr) (c231 : Nat), f = updL j [(2, vP b3 0), (3, vP b4 0), (5, vS A230 l229.length c231), (13, vS A93 y91.length c94), (14, vI (y91.length : Int)), (15, vI x232)] ∧ Inv M w [.blk b3 25 [vS A0z0 a0.Keys.length c0z0, vS A0z1 a0.Txns.length c0z1], .blk b4 37 [vI a1.Txn, vI a1.Place, vI a1.Key, vS A1z0 a1.Base.length c1z0], .row kSourceFinal 118 A230 l229.length c231 l229, .row (tInt .i64) 3 A93 y91.length c94 y91]) H ⟨_, none, 0, at_, (hI.nilrow kSourceFinal 118).pick [0, 1, 3, 2] (by decide) rfl⟩ ?_
  clear H hI
  rintro ⟨l229, x232⟩ _ _ o1 H ⟨_, A230, c231, rfl, hI⟩ hin1 hout1
  refine go_seq (rp 1 (go_seq ?_))
  replace H := cond_some H
  rcases H with ⟨hc234, H⟩ | ⟨hc234, H⟩
  · refine gt hc234 (go_skip (go_seq ?_))
    refine go_block_join (o := o1) (fun l266 f w => ∃ (j : Nat → Value) (A267 : Option Addr) (c268 : Nat), f = updL j [(2, vP b3 0), (3, vP b4 0), (5, vS A267 l266.length c268), (13, vS A93 y91.length c94), (14, vI (y91.length : Int)), (15, vI x232)] ∧ Inv M w [.blk b3 25 [vS A0z0 a0.Keys.length c0z0, vS A0z1 a0.Txns.length c0z1], .blk b4 37 [vI a1.Txn, vI a1.Place, vI a1.Key, vS A1z0 a1.Base.length c1z0], .row kSourceFinal 118 A267 l266.length c268 l266, .row (tInt .i64) 3 A93 y91.length c94 y91]) (fun l266 => source_finals.j2 x232 l266) ?_ (fun hJ269 => ?_)
    · clear H hI
      rintro l266 _ _ ⟨_, A267, c268, rfl, hI⟩ H
      refine rp 2 ?_
      exact hin1 _ (Option.some.inj H).symm _ _ ⟨_, A267, c268, at_, hI⟩
    · refine go_seq (r_in ?_)
      replace H := must_some H
      obtain ⟨g272, H⟩ := H
      obtain ⟨b273, rfl⟩ := hI.rowAt 3 rfl g272
      refine bx 0 [.x, .l 0 0, .p] (gA ((rdS.flook (hI.row 3 rfl) (hI.rowlen 3 rfl) g272).ok)) _ (bZ g272) (ro (go_seq (r_in (bg 0 [.l 0 0, .p, .p, .l 1 2] (gB (hI.grp 0 rfl) (hI.grp 1 rfl)) ?_))))
      replace H := bind_some H
      obtain ⟨y278, hy279, H⟩ := H
      refine oe 4 rfl ?_
      refine ec (enter22 _) (index_Final_calls a0 A0z0 c0z0 A0z1 c0z1 (idx y91 x232) a1.Key (memOf _) _ (Inv.start _) (hI.rd hr0z0) hl0z0 (hI.rd hr0z1) hl0z1 _ hy279) ?_
      rintro _ _ ⟨A280, c281, rfl, hI'⟩
      replace hI := hI.call0 hI'
      clear hI'
      refine ⟨_, rfl, ?_⟩
      refine bp 5 5 (ro ?_)
      refine go_seq_join (o := o1) (fun b283 f w => ∃ (j : Nat → Value), f = updL j [(2, vP b3 0), (3, vP b4 0), (5, vS A230 l229.length c231), (7, vI (idx y91 x232)), (8, vS A280 y278.1.length c281), (13, vS (some ⟨b273, 0, none⟩) y91.length c94), (14, vI (y91.length : Int)), (15, vI x232), (33, vB b283)] ∧ Inv M w [.blk b3 25 [vS A0z0 a0.Keys.length c0z0, vS A0z1 a0.Txns.length c0z1], .blk b4 37 [vI a1.Txn, vI a1.Place, vI a1.Key, vS A1z0 a1.Base.length c1z0], .row kSourceFinal 118 A230 l229.length c231 l229, .row (tInt .i64) 2 A280 y278.1.length c281 y278.1, .row (tInt .i64) 3 (some ⟨b273, 0, none⟩) y91.length c94 y91]) (fun b283 => source_finals.j3 y91 l229 x232 y278 b283) ?_ (fun hJ284 => ?_)
      · clear H hI
        rintro b283 _ _ ⟨_, rfl, hI⟩ H
        replace H := cond_some H
        rcases H with ⟨hc285, H⟩ | ⟨hc285, H⟩
        · refine gt hc285 (r_in (bp 0 4 (oe 4 rfl ?_)))
          refine e_partsS 115 118 1 _ _ _ #[vI (idx y91 x232), vS A280 y278.1.length c281] [vI (idx y91 x232), vS A280 y278.1.length c281] rfl rfl rfl rfl (by kernel_rfl) (by kernel_rfl) (by kernel_rfl) (by kernel_rfl) hI ?_
          clear hI
          intro b286 _ hs287 hI
          replace H := must_some H
          obtain ⟨g288, H⟩ := H
          refine oe 5 rfl ?_
          refine e_append kSourceFinal 115 0 118 _ _ _ _ A230 l229.length c231 l229 ([(⟨idx y91 x232, y278.1⟩ : SourceFinal)] : List SourceFinal) b286 0 1 1 [vI (idx y91 x232), vS A280 y278.1.length c281] 2 [3] [0, 1, 4, 5] [.row (tInt .i64) 2 A280 y278.1.length c281 y278.1] [.blk b3 25 [vS A0z0 a0.Keys.length c0z0, vS A0z1 a0.Txns.length c0z1], .blk b4 37 [vI a1.Txn, vI a1.Place, vI a1.Key, vS A1z0 a1.Base.length c1z0], .row (tInt .i64) 3 (some ⟨b273, 0, none⟩) y91.length c94 y91, .blk b286 118 [vI (idx y91 x232), vS A280 y278.1.length c281]] rfl (by kernel_rfl) (by kernel_rfl) rfl rfl rfl rfl rfl (by kernel_rfl) hI (by decide) rfl rfl rfl (hI.grp 5 rfl) g288 (mks_cons (mk_iso (g := fun g : SourceFinal => (g.txn, g.args)) (x := (⟨idx y91 x232, y278.1⟩ : SourceFinal)) (mk_pair (mk_flat (k := (tInt .i64)) (idx y91 x232) [vI (idx y91 x232)] rfl) mk_row)) mks_nil) ?_
          clear hI
          intro A289 c290 _ hI
          replace hI := hI.pick (L' := [.row kSourceFinal 118 A289 ((l229 ++ ([(⟨idx y91 x232, y278.1⟩ : SourceFinal)] : List SourceFinal)).length) c290 (l229 ++ ([(⟨idx y91 x232, y278.1⟩ : SourceFinal)] : List SourceFinal)), .blk b3 25 [vS A0z0 a0.Keys.length c0z0, vS A0z1 a0.Txns.length c0z1], .blk b4 37 [vI a1.Txn, vI a1.Place, vI a1.Key, vS A1z0 a1.Base.length c1z0], .row (tInt .i64) 3 (some ⟨b273, 0, none⟩) y91.length c94 y91]) [0, 1, 2, 3] (by decide) rfl
          refine bp 6 1 (ro (go_inBlock ?_))
          exact hJ269 (l229 ++ ([(⟨idx y91 x232, y278.1⟩ : SourceFinal)] : List SourceFinal)) _ _ ⟨_, A289, c290, at_, hI.pick [1, 2, 0, 3] (by decide) rfl⟩ H
        · refine ge hc285 (go_skip (go_inBlock ?_))
          exact hJ269 l229 _ _ ⟨_, A230, c231, at_, hI.pick [0, 1, 2, 4] (by decide) rfl⟩ H
      · refine r_in ?_
        replace H := cond_some H
        rcases H with ⟨hc291, H⟩ | ⟨hc291, H⟩
        · refine bx 0 [.p, .c true, .p, .p, .l 0 0, .p, .p] (gA (hI.grp 1 rfl)) _ (bZ (bndEq hc291)) (ro ?_)
          exact hJ284 (idx y91 x232 != a1.Txn) _ _ ⟨_, at_, hI.pick [0, 1, 2, 4, 3] (by decide) rfl⟩ H
        · refine bx 0 [.p, .c false, .p, .p, .p, .p, .p] gO _ (bZ (bndEq hc291)) (ro ?_)
          exact hJ284 false _ _ ⟨_, at_, hI.pick [0, 1, 2, 4, 3] (by decide) rfl⟩ H
  · refine ge hc234 ?_
    refine go_exit rfl ?_
    refine go_seq (rp 2 ?_)
    replace H := out_some H
    obtain ⟨_, H, he1⟩ := H
    have he := (hout1 _ he1).symm
    subst he
    replace H := Option.some.inj H
    subst H
    exact gr Try.func63 ⟨A230, c231, rfl, hI.pick [2] (by decide) rfl⟩
theorem enter102 (a : Array Value) : Sem.pureRun Try.prog (callFunc 102 a) = some (.enter 102 a) := by kernel_rfl
theorem source_list_1zcalls (a0 : SourceFinal) (A0z0 : Option Addr) (c0z0 : Nat) (b1z : Nat) (a1 : List Int) (A1z0 : Option Addr) (c1z0 : Nat) (M : Mem) (w : World) (hI : Inv M w []) (hr0z0 : rdS (tInt .i64) M.blk A0z0 a0.args) (hl0z0 : a0.args.length ≤ c0z0) (hb1z : Lies M.blk (b1z, 0, [vS A1z0 a1.length c1z0])) (hr1z0 : rdS (tInt .i64) M.blk A1z0 a1) (hl1z0 : a1.length ≤ c1z0) (r : Bool) (H : source_list_1 a0 a1 = some r) :
    Calls Try.prog 102 #[.agg #[vI a0.txn, vS A0z0 a0.args.length c0z0], vP b1z 0] w fun e w' => e = .returned (vB r) ∧ Inv M w' [] := by
  refine cg Try.func102 ?_
  intro cs
  unfold source_list_1 at H
  refine go_seq (r_in (oe 0 rfl ?_))
  refine e_box 118 _ (.agg #[vI a0.txn, vS A0z0 a0.args.length c0z0]) [vI a0.txn, vS A0z0 a0.args.length c0z0] rfl (by kernel_rfl) rfl hI ?_
  clear hI
  intro b2 _ hI
  refine bp 1 1 (ro (go_seq ?_))
  replace H := must_some H
  obtain ⟨g9, H⟩ := H
  obtain ⟨b10, q11, rfl, _⟩ := rdS.fopen hr0z0 rfl g9
  replace H := must_some H
  obtain ⟨g12, H⟩ := H
  obtain ⟨b13, q14, rfl, _⟩ := rdS.fopen hr1z0 rfl g12
  refine dx [.p, .l 0 1, .x, .l 1 0, .l 2 0, .x, .l 3 0, .p, .p] (gD (hI.grp 0 rfl) (hI.lies (rdS.flook hr0z0 rfl g9)) (hI.lies hb1z) (hI.lies (rdS.flook hr1z0 rfl g12))) _ (bC g9 (bZ g12)) hI ?_
  clear hI
  intro _ hI
  replace H := Option.some.inj H
  subst H
  exact gr Try.func102 ⟨rfl, hI.pn⟩
theorem enter113 (a : Array Value) : Sem.pureRun Try.prog (callFunc 113 a) = some (.enter 113 a) := by kernel_rfl
theorem slices_Index_int_calls (A0z : Option Addr) (c0z : Nat) (a0 : List Int) (a1 : Int) (M : Mem) (w : World) (hI : Inv M w []) (hr0z : rdS (tInt .i64) M.blk A0z a0) (hl0z : a0.length ≤ c0z) (r : Int) (H : slices_Index_int a0 a1 = some r) :
    Calls Try.prog 113 #[vS A0z a0.length c0z, vI a1] w fun e w' => e = .returned (vI r) ∧ Inv M w' [] := by
  refine cg Try.func113 ?_
  intro cs
  unfold slices_Index_int at H
  refine go_seq (rp 1 (go_seq (go_seq (rp 3 (go_block ?_)))))
  refine go_iter (slices_Index_int.s1 a0 a1) (fun x58 f w => ∃ (j : Nat → Value), f = updL j [(0, vS A0z a0.length c0z), (1, vI a1), (7, vI (a0.length : Int)), (8, vI x58)] ∧ Inv M w []) H ⟨_, at_, hI⟩ ?_
  clear H hI
  rintro x58 _ _ o1 H ⟨_, rfl, hI⟩ hin1 hout1
  refine go_seq (rp 1 (go_seq ?_))
  replace H := cond_some H
  rcases H with ⟨hc60, H⟩ | ⟨hc60, H⟩
  · refine gt hc60 (go_skip (go_seq (go_block (go_seq (rp 2 (go_seq (r_in ?_)))))))
    replace H := must_some H
    obtain ⟨g72, H⟩ := H
    obtain ⟨b73, q74, rfl, _⟩ := rdS.fopen hr0z rfl g72
    refine bx 0 [.p, .p, .p, .x, .l 0 0, .p] (gA (hI.lies (rdS.flook hr0z rfl g72))) _ (bZ g72) (ro ?_)
    replace H := cond_some H
    rcases H with ⟨hc75, H⟩ | ⟨hc75, H⟩
    · refine gt hc75 (go_seq (rp 2 ?_))
      replace H := out_some H
      obtain ⟨_, H, he1⟩ := H
      have he := (hout1 _ he1).symm
      subst he
      replace H := Option.some.inj H
      subst H
      exact gr Try.func113 ⟨rfl, hI⟩
    · refine ge hc75 (go_skip (go_inBlock (rp 2 ?_)))
      exact hin1 _ (Option.some.inj H).symm _ _ ⟨_, at_, hI⟩
  · refine ge hc60 ?_
    refine go_exit rfl ?_
    refine go_seq (rp 1 ?_)
    replace H := out_some H
    obtain ⟨_, H, he1⟩ := H
    have he := (hout1 _ he1).symm
    subst he
    replace H := Option.some.inj H
    subst H
    exact gr Try.func113 ⟨rfl, hI⟩
theorem enter103 (a : Array Value) : Sem.pureRun Try.prog (callFunc 103 a) = some (.enter 103 a) := by kernel_rfl
theorem slices_Contains_int_calls (A0z : Option Addr) (c0z : Nat) (a0 : List Int) (a1 : Int) (M : Mem) (w : World) (hI : Inv M w []) (hr0z : rdS (tInt .i64) M.blk A0z a0) (hl0z : a0.length ≤ c0z) (r : Bool) (H : slices_Contains_int a0 a1 = some r) :
    Calls Try.prog 103 #[vS A0z a0.length c0z, vI a1] w fun e w' => e = .returned (vB r) ∧ Inv M w' [] := by
  refine cg Try.func103 ?_
  intro cs
  unfold slices_Contains_int at H
  refine go_seq (rp 1 (go_seq (r_in (bp 0 2 ?_))))
  replace H := bind_some H
  obtain ⟨y3, hy4, H⟩ := H
  refine oe 2 rfl ?_
  refine ec (enter113 _) (slices_Index_int_calls A0z c0z a0 a1 (memOf _) _ (Inv.start _) (hI.rd hr0z) hl0z _ hy4) ?_
  rintro _ _ ⟨rfl, hI'⟩
  replace hI := hI.call0 hI'
  clear hI'
  refine ⟨_, rfl, ?_⟩
  refine bp 3 2 (ro ?_)
  replace H := Option.some.inj H
  subst H
  exact gr Try.func103 ⟨rfl, hI⟩
theorem enter101 (a : Array Value) : Sem.pureRun Try.prog (callFunc 101 a) = some (.enter 101 a) := by kernel_rfl
theorem slices_IndexFunc_final_source_list_1zcalls (A0z : Option Addr) (c0z : Nat) (a0 : List SourceFinal) (b1c0z : Nat) (a1c0 : List Int) (A1c0z0 : Option Addr) (c1c0z0 : Nat) (M : Mem) (w : World) (hI : Inv M w []) (hr0z : rdS kSourceFinal M.blk A0z a0) (hl0z : a0.length ≤ c0z) (hb1c0z : Lies M.blk (b1c0z, 0, [vS A1c0z0 a1c0.length c1c0z0])) (hr1c0z0 : rdS (tInt .i64) M.blk A1c0z0 a1c0) (hl1c0z0 : a1c0.length ≤ c1c0z0) (r : Int) (H : slices_IndexFunc_final_source_list_1 a0 a1c0 = some r) :
    Calls Try.prog 101 #[vS A0z a0.length c0z, .func (.func 102) #[] #[vP b1c0z 0]] w fun e w' => e = .returned (vI r) ∧ Inv M w' [] := by
  refine cg Try.func101 ?_
  intro cs
  unfold slices_IndexFunc_final_source_list_1 at H
  refine go_seq (rp 1 (go_seq (go_seq (rp 3 (go_block ?_)))))
  refine go_iter (slices_IndexFunc_final_source_list_1.s1 a0 a1c0) (fun x130 f w => ∃ (j : Nat → Value), f = updL j [(0, vS A0z a0.length c0z), (1, .func (.func 102) #[] #[vP b1c0z 0]), (7, vI (a0.length : Int)), (8, vI x130)] ∧ Inv M w []) H ⟨_, at_, hI⟩ ?_
  clear H hI
  rintro x130 _ _ o1 H ⟨_, rfl, hI⟩ hin1 hout1
  refine go_seq (rp 1 (go_seq ?_))
  replace H := cond_some H
  rcases H with ⟨hc132, H⟩ | ⟨hc132, H⟩
  · refine gt hc132 (go_skip (go_seq (go_block (go_seq (rp 2 (go_seq (r_in ?_)))))))
    replace H := must_some H
    obtain ⟨g171, H⟩ := H
    obtain ⟨b175, q176, rfl, cs174, hk173, hg172⟩ := rdS.open hr0z rfl g171
    obtain ⟨_, _, rfl, rfl, ⟨A177, c178, rfl, hl180, hr179⟩⟩ := hk173
    refine bx 0 [.p, .p, .p, .x, .l 0 0] (gA (hI.lies hg172)) _ (bZ g171) ?_
    replace H := bind_some H
    obtain ⟨y181, hy182, H⟩ := H
    refine oe 5 rfl ?_
    refine e_callf _ _ _ 102 #[] #[vP b1c0z 0] #[.agg #[vI ((idx a0 x130).txn), vS A177 (((idx a0 x130).args).length) c178]] #[.agg #[vI ((idx a0 x130).txn), vS A177 (((idx a0 x130).args).length) c178], vP b1c0z 0] rfl (by kernel_rfl) (by kernel_rfl) (by kernel_rfl) (enter102 _) (source_list_1zcalls (idx a0 x130) A177 c178 b1c0z a1c0 A1c0z0 c1c0z0 (memOf _) _ (Inv.start _) (hI.rd hr179) hl180 (Lies.mono hb1c0z hI.fix) (hI.rd hr1c0z0) hl1c0z0 _ hy182) ?_
    rintro _ _ ⟨rfl, hI'⟩
    replace hI := hI.call0 hI'
    clear hI'
    refine ⟨_, rfl, ?_⟩
    refine ro ?_
    replace H := cond_some H
    rcases H with ⟨hc183, H⟩ | ⟨hc183, H⟩
    · refine gt hc183 (go_seq (rp 2 ?_))
      replace H := out_some H
      obtain ⟨_, H, he1⟩ := H
      have he := (hout1 _ he1).symm
      subst he
      replace H := Option.some.inj H
      subst H
      exact gr Try.func101 ⟨rfl, hI⟩
    · refine ge hc183 (go_skip (go_inBlock (rp 2 ?_)))
      exact hin1 _ (Option.some.inj H).symm _ _ ⟨_, at_, hI⟩
  · refine ge hc132 ?_
    refine go_exit rfl ?_
    refine go_seq (rp 1 ?_)
    replace H := out_some H
    obtain ⟨_, H, he1⟩ := H
    have he := (hout1 _ he1).symm
    subst he
    replace H := Option.some.inj H
    subst H
    exact gr Try.func101 ⟨rfl, hI⟩
theorem enter81 (a : Array Value) : Sem.pureRun Try.prog (callFunc 81 a) = some (.enter 81 a) := by kernel_rfl
theorem source_list_calls (A0z : Option Addr) (c0z : Nat) (a0 : List Int) (A1z : Option Addr) (c1z : Nat) (a1 : List SourceFinal) (M : Mem) (w : World) (hI : Inv M w []) (hr0z : rdS (tInt .i64) M.blk A0z a0) (hl0z : a0.length ≤ c0z) (hr1z : rdS kSourceFinal M.blk A1z a1) (hl1z : a1.length ≤ c1z) (r : List Int × Bool) (H : source_list a0 a1 = some r) :
    Calls Try.prog 81 #[vS A0z a0.length c0z, vS A1z a1.length c1z] w fun e w' => ∃ (A1004 : Option Addr), ∃ (c1005 : Nat), e = .returned (.tuple #[vS A1004 r.1.length c1005, vB r.2]) ∧ Inv M w' [.row (tInt .i64) 3 A1004 r.1.length c1005 r.1] := by
  refine cg Try.func81 ?_
  intro cs
  unfold source_list at H
  refine go_seq (r_in (oe 0 rfl ?_))
  refine e_box 35 _ (vS A0z a0.length c0z) [vS A0z a0.length c0z] rfl (by kernel_rfl) rfl hI ?_
  clear hI
  intro b2 _ hI
  refine bp 1 2 (ro (go_seq (rp 1 (go_seq (go_block ?_)))))
  refine go_iter (source_list.s1 a1) (fun (l739, l744) f w => ∃ (j : Nat → Value) (A740 : Option Addr) (c741 : Nat) (A745 : Option Addr) (c746 : Nat), f = updL j [(1, vS A1z a1.length c1z), (2, vP b2 0), (6, vS A745 l744.length c746)] ∧ rdS (tInt .i64) M.blk A740 l739 ∧ l739.length ≤ c741 ∧ Inv M w [.blk b2 35 [vS A740 l739.length c741], .row (tInt .i64) 3 A745 l744.length c746 l744]) H ⟨_, A0z, c0z, none, 0, at_, hr0z, hl0z, (hI.nilrow (tInt .i64) 3)⟩ ?_
  clear H hI
  rintro ⟨l739, l744⟩ _ _ o1 H ⟨_, A740, c741, A745, c746, rfl, hr742, hl743, hI⟩ hin1 hout1
  refine go_seq (go_seq (rg [.l 0 0, .p, .p] (gA (hI.grp 0 rfl)) ?_))
  replace H := cond_some H
  rcases H with ⟨hc748, H⟩ | ⟨hc748, H⟩
  · refine gt hc748 (go_skip (go_block (go_seq (r_in (bp 0 2 ?_)))))
    replace H := bind_some H
    obtain ⟨y825, hy826, H⟩ := H
    refine oe 2 rfl ?_
    refine ec (enter101 _) (slices_IndexFunc_final_source_list_1zcalls A1z c1z a1 b2 l739 A740 c741 (memOf _) _ (Inv.start _) (hI.rd hr1z) hl1z (Grp.lies (hI.grp 0 rfl)) (hI.rd hr742) hl743 _ hy826) ?_
    rintro _ _ ⟨rfl, hI'⟩
    replace hI := hI.call0 hI'
    clear hI'
    refine ⟨_, rfl, ?_⟩
    refine bp 3 1 (ro (go_seq ?_))
    refine go_seq_join (o := o1) (fun b915 f w => ∃ (j : Nat → Value), f = updL j [(1, vS A1z a1.length c1z), (2, vP b2 0), (6, vS A745 l744.length c746), (7, vI y825), (52, vB b915)] ∧ Inv M w [.blk b2 35 [vS A740 l739.length c741], .row (tInt .i64) 3 A745 l744.length c746 l744]) (fun b915 => source_list.j2 a1 l739 l744 y825 b915) ?_ (fun hJ916 => ?_)
    · clear H hI
      rintro b915 _ _ ⟨_, rfl, hI⟩ H
      replace H := cond_some H
      rcases H with ⟨hc917, H⟩ | ⟨hc917, H⟩
      · refine gt hc917 (go_seq (rp 2 ?_))
        replace H := out_some H
        obtain ⟨_, H, he1⟩ := H
        have he := (hout1 _ he1).symm
        subst he
        replace H := Option.some.inj H
        subst H
        exact gr Try.func81 ⟨none, 0, rfl, (hI.nilrow (tInt .i64) 3).pick [2] (by decide) rfl⟩
      · refine ge hc917 (go_skip (go_seq (r_in ?_)))
        replace H := must_some H
        obtain ⟨g933, H⟩ := H
        obtain ⟨b937, q938, rfl, cs936, hk935, hg934⟩ := rdS.open hr1z rfl g933
        obtain ⟨_, _, rfl, rfl, ⟨A939, c940, rfl, hl942, hr941⟩⟩ := hk935
        refine bx 0 [.p, .p, .p, .x, .p, .l 0 0] (gA (hI.lies hg934)) _ (bZ g933) (oe 6 rfl ?_)
        refine e_partsS 32 3 1 _ _ _ #[vI ((idx a1 y825).txn)] [vI ((idx a1 y825).txn)] rfl rfl rfl rfl (by kernel_rfl) (by kernel_rfl) (by kernel_rfl) (by kernel_rfl) hI ?_
        clear hI
        intro b943 _ hs944 hI
        replace H := must_some H
        obtain ⟨g945, H⟩ := H
        refine oe 7 rfl ?_
        refine e_append (tInt .i64) 32 0 3 _ _ _ _ A745 l744.length c746 l744 ([(idx a1 y825).txn] : List Int) b943 0 1 1 [vI ((idx a1 y825).txn)] 1 [] [0, 2] [] [.blk b2 35 [vS A740 l739.length c741], .blk b943 3 [vI ((idx a1 y825).txn)]] rfl (by kernel_rfl) (by kernel_rfl) rfl rfl rfl rfl rfl (by kernel_rfl) hI (by decide) rfl rfl rfl (hI.grp 2 rfl) g945 (mks_cons (mk_flat (k := (tInt .i64)) ((idx a1 y825).txn) [vI ((idx a1 y825).txn)] rfl) mks_nil) ?_
        clear hI
        intro A946 c947 _ hI
        replace hI := hI.pick (L' := [.row (tInt .i64) 3 A946 ((l744 ++ ([(idx a1 y825).txn] : List Int)).length) c947 (l744 ++ ([(idx a1 y825).txn] : List Int)), .blk b2 35 [vS A740 l739.length c741]]) [0, 1] (by decide) rfl
        refine bp 8 1 (ro ?_)
        obtain ⟨cs950, hk949, hg948⟩ := rdS.look hr1z rfl g933
        obtain ⟨_, _, rfl, rfl, ⟨A951, c952, rfl, hl954, hr953⟩⟩ := hk949
        replace H := must_some H
        obtain ⟨g955, H⟩ := H
        refine go_held (fun w => Inv M w [.row (tInt .i64) 3 A946 ((l744 ++ ([(idx a1 y825).txn] : List Int)).length) c947 (l744 ++ ([(idx a1 y825).txn] : List Int))]) (by kernel_rfl) ?_
        replace hI := hI.drew'
        refine hx (n := 3) [(1, .p), (2, .p), (3, .x), (4, .p), (5, .l 0 1), (6, .p)] (fun _ hS => (gA (hS.lies hg948))) (hI.pk [0]) _ (bZ g933) ?_
        refine ho (n := 2) 0 rfl (e_read (ops := #[]) [(b2, 0, [vS A740 l739.length c741])] (.l 0 0) (vS A740 l739.length c741) [] ⟨(hI.grp 1 rfl), trivial⟩ trivial (by kernel_rfl) (by kernel_rfl) (by kernel_rfl) ⟨(hI.pk [0]), ?_⟩)
        refine ho (n := 1) 7 rfl (e_slice_ro (tInt .i64) _ 35 2 _ _ _ _ A740 c741 l739 .i64 .i64 (((idx a1 y825).args).length : Int) (l739.length : Int) rfl (by kernel_rfl) (by kernel_rfl) (by kernel_rfl) rfl rfl rfl hr742 hl743 g955 ?_)
        intro A956 c957 hr958 hl959
        refine ⟨(hI.pk [0]), ?_⟩
        refine ho (n := 0) 8 rfl (e_store 35 _ _ 1 b2 35 [vS A740 l739.length c741] [vS A956 ((subl l739 (((idx a1 y825).args).length : Int) (l739.length : Int)).length) c957] 0 (vS A956 ((subl l739 (((idx a1 y825).args).length : Int) (l739.length : Int)).length) c957) rfl (by kernel_rfl) (by kernel_rfl) (by kernel_rfl) (by kernel_rfl) hI rfl (by kernel_rfl) (by kernel_rfl) ?_)
        clear hI
        intro _ hI
        refine ⟨(hI.pk [0]), ?_⟩
        refine hd (go_inBlock ?_)
        exact hin1 _ (Option.some.inj H).symm _ _ ⟨_, A956, c957, A946, c947, at_, hr958, hl959, hI.pick [1, 0] (by decide) rfl⟩
    · replace H := cond_some H
      rcases H with ⟨hc960, H⟩ | ⟨hc960, H⟩
      · refine dx [.p, .p, .c true, .p, .p, .p, .p, .p, .p, .p, .p, .p, .p, .p, .p, .p, .p, .p, .p, .p, .p, .p, .p, .p, .p, .p, .p, .p, .p, .p, .p, .p, .p, .p, .p, .p, .p, .p, .p] gO _ (bZ (bndEq hc960)) hI ?_
        clear hI
        intro _ hI
        exact hJ916 true _ _ ⟨_, at_, hI⟩ H
      · replace H := must_some H
        obtain ⟨g961, H⟩ := H
        obtain ⟨b965, q966, rfl, cs964, hk963, hg962⟩ := rdS.open hr1z rfl g961
        obtain ⟨_, _, rfl, rfl, ⟨A967, c968, rfl, hl970, hr969⟩⟩ := hk963
        replace H := cond_some H
        rcases H with ⟨hc971, H⟩ | ⟨hc971, H⟩
        · refine dx [.p, .p, .c false, .p, .p, .x, .p, .l 0 1, .p, .l 1 0, .p, .p, .p, .c true, .p, .p, .p, .p, .p, .p, .p, .p, .p, .p, .p, .p, .p, .p, .p, .p, .p, .p, .p, .p, .p, .p, .p, .p, .p] (gB (hI.lies hg962) (hI.grp 0 rfl)) _ (bC (bndEq hc960) (bC g961 (bZ (bndEq hc971)))) hI ?_
          clear hI
          intro _ hI
          exact hJ916 true _ _ ⟨_, at_, hI⟩ H
        · obtain ⟨cs974, hk973, hg972⟩ := rdS.look hr1z rfl g961
          obtain ⟨_, _, rfl, rfl, ⟨A975, c976, rfl, hl978, hr977⟩⟩ := hk973
          obtain ⟨cs981, hk980, hg979⟩ := rdS.look hr1z rfl g961
          obtain ⟨_, _, rfl, rfl, ⟨A982, c983, rfl, hl985, hr984⟩⟩ := hk980
          replace H := must_some H
          obtain ⟨g986, H⟩ := H
          replace H := bind_some H
          obtain ⟨y991, hy992, H⟩ := H
          replace H := cond_some H
          rcases H with ⟨hc993, H⟩ | ⟨hc993, H⟩
          · refine go_held (fun w => Inv M w [.blk b2 35 [vS A740 l739.length c741], .row (tInt .i64) 3 A745 l744.length c746 l744]) (by kernel_rfl) ?_
            replace hI := hI.drew'
            refine hx (n := 13) [(0, .p), (1, .p), (2, .c false), (3, .p), (4, .p), (5, .x), (6, .p), (7, .l 0 1), (8, .p), (9, .l 1 0), (10, .p), (11, .p), (12, .p), (13, .c false), (14, .p), (15, .p), (16, .x), (17, .p), (18, .l 2 1), (19, .l 1 0), (20, .p), (21, .p), (22, .x), (23, .p), (24, .l 3 1), (25, .p)] (fun _ hS => (gD (hS.lies hg962) (hS.grp 0 rfl) (hS.lies hg972) (hS.lies hg979))) hI _ (bC (bndEq hc960) (bC g961 (bC (bndEq hc971) (bC g961 (bZ g961))))) ?_
            refine ho (n := 12) 26 rfl (e_slice_ro (tInt .i64) _ 35 2 _ _ _ _ A740 c741 l739 .i64 .i64 (0 : Int) (((idx a1 y825).args).length : Int) rfl (by kernel_rfl) (by kernel_rfl) (by kernel_rfl) rfl rfl rfl hr742 hl743 g986 ?_)
            intro A987 c988 hr989 hl990
            refine ⟨hI, ?_⟩
            refine ho (n := 11) 27 rfl (ec (enter54 _) (slices_Equal_int64zcalls A975 c976 ((idx a1 y825).args) A987 c988 (subl l739 (0 : Int) (((idx a1 y825).args).length : Int)) (memOf _) _ (Inv.start _) (hI.rd hr977) hl978 (hI.rd hr989) hl990 _ hy992) ?_)
            rintro _ _ ⟨rfl, hI'⟩
            replace hI := hI.call0 hI'
            clear hI'
            refine ⟨_, rfl, ?_⟩
            refine ⟨hI, ?_⟩
            refine hx (n := 0) [(28, .p), (29, .p), (30, .c true), (31, .p), (32, .p), (33, .p), (34, .p), (35, .p), (36, .p), (37, .p), (38, .p)] (fun _ hS => gO) hI _ (bZ (bndEq hc993)) (hd ?_)
            exact hJ916 true _ _ ⟨_, at_, hI⟩ H
          · obtain ⟨cs996, hk995, hg994⟩ := rdS.look hr1z rfl g961
            obtain ⟨_, _, rfl, rfl, ⟨A997, c998, rfl, hl1000, hr999⟩⟩ := hk995
            replace H := bind_some H
            obtain ⟨y1001, hy1002, H⟩ := H
            refine go_held (fun w => Inv M w [.blk b2 35 [vS A740 l739.length c741], .row (tInt .i64) 3 A745 l744.length c746 l744]) (by kernel_rfl) ?_
            replace hI := hI.drew'
            refine hx (n := 13) [(0, .p), (1, .p), (2, .c false), (3, .p), (4, .p), (5, .x), (6, .p), (7, .l 0 1), (8, .p), (9, .l 1 0), (10, .p), (11, .p), (12, .p), (13, .c false), (14, .p), (15, .p), (16, .x), (17, .p), (18, .l 2 1), (19, .l 1 0), (20, .p), (21, .p), (22, .x), (23, .p), (24, .l 3 1), (25, .p)] (fun _ hS => (gD (hS.lies hg962) (hS.grp 0 rfl) (hS.lies hg972) (hS.lies hg979))) hI _ (bC (bndEq hc960) (bC g961 (bC (bndEq hc971) (bC g961 (bZ g961))))) ?_
            refine ho (n := 12) 26 rfl (e_slice_ro (tInt .i64) _ 35 2 _ _ _ _ A740 c741 l739 .i64 .i64 (0 : Int) (((idx a1 y825).args).length : Int) rfl (by kernel_rfl) (by kernel_rfl) (by kernel_rfl) rfl rfl rfl hr742 hl743 g986 ?_)
            intro A987 c988 hr989 hl990
            refine ⟨hI, ?_⟩
            refine ho (n := 11) 27 rfl (ec (enter54 _) (slices_Equal_int64zcalls A975 c976 ((idx a1 y825).args) A987 c988 (subl l739 (0 : Int) (((idx a1 y825).args).length : Int)) (memOf _) _ (Inv.start _) (hI.rd hr977) hl978 (hI.rd hr989) hl990 _ hy992) ?_)
            rintro _ _ ⟨rfl, hI'⟩
            replace hI := hI.call0 hI'
            clear hI'
            refine ⟨_, rfl, ?_⟩
            refine ⟨hI, ?_⟩
            refine hx (n := 2) [(28, .p), (29, .p), (30, .c false), (31, .p), (32, .p), (33, .p), (34, .x), (35, .p), (36, .l 0 0)] (fun _ hS => (gA (hS.lies hg994))) hI _ (bC (bndEq hc993) (bZ g961)) ?_
            refine ho (n := 1) 37 rfl (ec (enter103 _) (slices_Contains_int_calls A745 c746 l744 ((idx a1 y825).txn) (memOf _) _ (Inv.start _) (hI.row 1 rfl) (hI.rowle 1 rfl) _ hy1002) ?_)
            rintro _ _ ⟨rfl, hI'⟩
            replace hI := hI.call0 hI'
            clear hI'
            refine ⟨_, rfl, ?_⟩
            refine ⟨hI, ?_⟩
            refine hg (n := 0) [(38, .p)] (fun _ hS => gO) hI (hd ?_)
            exact hJ916 y1001 _ _ ⟨_, at_, hI⟩ H
  · refine ge hc748 ?_
    refine go_exit rfl ?_
    refine go_seq (rp 3 ?_)
    replace H := out_some H
    obtain ⟨_, H, he1⟩ := H
    have he := (hout1 _ he1).symm
    subst he
    replace H := Option.some.inj H
    subst H
    exact gr Try.func81 ⟨A745, c746, rfl, hI.pick [1] (by decide) rfl⟩
theorem enter82 (a : Array Value) : Sem.pureRun Try.prog (callFunc 82 a) = some (.enter 82 a) := by kernel_rfl
theorem source_set_calls (A0z : Option Addr) (c0z : Nat) (a0 : List Int) (A1z : Option Addr) (c1z : Nat) (a1 : List SourceFinal) (M : Mem) (w : World) (hI : Inv M w []) (hr0z : rdS (tInt .i64) M.blk A0z a0) (hl0z : a0.length ≤ c0z) (hr1z : rdS kSourceFinal M.blk A1z a1) (hl1z : a1.length ≤ c1z) (r : List Int × Bool) (H : source_set a0 a1 = some r) :
    Calls Try.prog 82 #[vS A0z a0.length c0z, vS A1z a1.length c1z] w fun e w' => ∃ (A1029 : Option Addr), ∃ (c1030 : Nat), e = .returned (.tuple #[vS A1029 r.1.length c1030, vB r.2]) ∧ Inv M w' [.row (tInt .i64) 3 A1029 r.1.length c1030 r.1] := by
  refine cg Try.func82 ?_
  intro cs
  unfold source_set at H
  refine go_seq (rp 2 (go_seq (rp 1 (go_seq (r_in (oe 0 rfl ?_))))))
  refine e_makemap Int Unit (fun x : Int => vI x) (fun _ : Unit => .agg #[]) 170 rfl hI ?_
  clear hI
  intro b2 _ hI
  refine bp 1 1 (ro (go_seq (go_seq (rp 3 (go_block ?_)))))
  refine go_iter (source_set.s1 a0 a1) (fun (m69, x70) f w => ∃ (j : Nat → Value), f = updL j [(1, vS A1z a1.length c1z), (6, vS none 0 0), (7, .map (some b2)), (18, vS A0z a0.length c0z), (19, vI (a0.length : Int)), (20, vI x70)] ∧ Inv M w [mapA (fun x : Int => vI x) (fun _ : Unit => .agg #[]) b2 m69]) H ⟨_, at_, hI⟩ ?_
  clear H hI
  rintro ⟨m69, x70⟩ _ _ o1 H ⟨_, rfl, hI⟩ hin1 hout1
  refine go_seq (rp 1 (go_seq ?_))
  replace H := cond_some H
  rcases H with ⟨hc72, H⟩ | ⟨hc72, H⟩
  · refine gt hc72 (go_skip (go_seq (go_block (go_seq (r_in ?_)))))
    replace H := must_some H
    obtain ⟨g82, H⟩ := H
    obtain ⟨b83, q84, rfl, _⟩ := rdS.fopen hr0z rfl g82
    refine bx 0 [.x, .l 0 0, .p] (gA (hI.lies (rdS.flook hr0z rfl g82))) _ (bZ g82) (ro (r_in (bp 0 3 (oe 3 rfl ?_))))
    refine e_mapput (ek := (fun x : Int => vI x)) (ev := (fun _ : Unit => .agg #[])) 170 2 141 _ _ _ 0 b2 m69 (idx a0 x70) () rfl (by kernel_rfl) (key_int (by kernel_rfl)) (by kernel_rfl) (by kernel_rfl) (by kernel_rfl) hI rfl ?_
    clear hI
    intro _ hI
    refine ro (go_inBlock (rp 2 ?_))
    exact hin1 _ (Option.some.inj H).symm _ _ ⟨_, at_, hI⟩
  · refine ge hc72 ?_
    refine go_exit rfl ?_
    refine go_seq (go_seq (rp 3 (go_block ?_)))
    refine go_iter (source_set.s2 a1) (fun (l706, m709, x710) f w => ∃ (j : Nat → Value) (A707 : Option Addr) (c708 : Nat), f = updL j [(6, vS A707 l706.length c708), (7, .map (some b2)), (28, vS A1z a1.length c1z), (29, vI (a1.length : Int)), (30, vI x710)] ∧ Inv M w [.row (tInt .i64) 3 A707 l706.length c708 l706, mapA (fun x : Int => vI x) (fun _ : Unit => .agg #[]) b2 m709]) H ⟨_, none, 0, at_, (hI.nilrow (tInt .i64) 3).pick [1, 0] (by decide) rfl⟩ ?_
    clear H hI
    rintro ⟨l706, m709, x710⟩ _ _ o2 H ⟨_, A707, c708, rfl, hI⟩ hin2 hout2
    refine go_seq (rp 1 (go_seq ?_))
    replace H := cond_some H
    rcases H with ⟨hc712, H⟩ | ⟨hc712, H⟩
    · refine gt hc712 (go_skip (go_seq ?_))
      refine go_block_join (o := o2) (fun (l841, m844) f w => ∃ (j : Nat → Value) (A842 : Option Addr) (c843 : Nat), f = updL j [(6, vS A842 l841.length c843), (7, .map (some b2)), (28, vS A1z a1.length c1z), (29, vI (a1.length : Int)), (30, vI x710)] ∧ Inv M w [.row (tInt .i64) 3 A842 l841.length c843 l841, mapA (fun x : Int => vI x) (fun _ : Unit => .agg #[]) b2 m844]) (fun (l841, m844) => source_set.j3 x710 l841 m844) ?_ (fun hJ845 => ?_)
      · clear H hI
        rintro ⟨l841, m844⟩ _ _ ⟨_, A842, c843, rfl, hI⟩ H
        refine rp 2 ?_
        exact hin2 _ (Option.some.inj H).symm _ _ ⟨_, A842, c843, at_, hI⟩
      · refine go_seq (r_in ?_)
        replace H := must_some H
        obtain ⟨g857, H⟩ := H
        obtain ⟨b861, q862, rfl, cs860, hk859, hg858⟩ := rdS.open hr1z rfl g857
        obtain ⟨_, _, rfl, rfl, ⟨A863, c864, rfl, hl866, hr865⟩⟩ := hk859
        refine bx 0 [.x, .l 0 0] (gA (hI.lies hg858)) _ (bZ g857) (oe 2 rfl ?_)
        refine e_alloc 118 (.agg #[vI 0, vS none 0 0]) [vI 0, vS none 0 0] rfl (by kernel_rfl) rfl hI ?_
        clear hI
        intro b867 _ hI
        refine oe 3 rfl ?_
        refine e_store 118 _ _ 2 b867 118 [vI 0, vS none 0 0] [vI ((idx a1 x710).txn), vS A863 (((idx a1 x710).args).length) c864] 0 (.agg #[vI ((idx a1 x710).txn), vS A863 (((idx a1 x710).args).length) c864]) rfl (by kernel_rfl) (by kernel_rfl) (by kernel_rfl) (by kernel_rfl) hI rfl (by kernel_rfl) (by kernel_rfl) ?_
        clear hI
        intro _ hI
        refine ro (go_seq (rp 1 (go_seq (go_seq (rg [.p, .l 0 1, .p, .p] (gA (hI.grp 2 rfl)) (go_block ?_))))))
        refine go_iter (source_set.s4 a1 l706 x710) (fun (m983, x984, x985) f w => ∃ (j : Nat → Value), f = updL j [(6, vS A707 l706.length c708), (7, .map (some b2)), (11, vP b867 0), (12, vI x984), (28, vS (some ⟨b861, q862, none⟩) a1.length c1z), (29, vI (a1.length : Int)), (30, vI x710), (35, vS A863 (((idx a1 x710).args).length) c864), (36, vI (((idx a1 x710).args).length : Int)), (37, vI x985)] ∧ Inv M w [.row (tInt .i64) 3 A707 l706.length c708 l706, mapA (fun x : Int => vI x) (fun _ : Unit => .agg #[]) b2 m983, .blk b867 118 [vI ((idx a1 x710).txn), vS A863 (((idx a1 x710).args).length) c864]]) H ⟨_, at_, hI⟩ ?_
        clear H hI
        rintro ⟨m983, x984, x985⟩ _ _ o3 H ⟨_, rfl, hI⟩ hin3 hout3
        refine go_seq (rp 1 (go_seq ?_))
        replace H := cond_some H
        rcases H with ⟨hc987, H⟩ | ⟨hc987, H⟩
        · refine gt hc987 (go_skip (go_seq ?_))
          refine go_block_join (o := o3) (fun (m1000, x1001) f w => ∃ (j : Nat → Value), f = updL j [(6, vS A707 l706.length c708), (7, .map (some b2)), (11, vP b867 0), (12, vI x1001), (28, vS (some ⟨b861, q862, none⟩) a1.length c1z), (29, vI (a1.length : Int)), (30, vI x710), (35, vS A863 (((idx a1 x710).args).length) c864), (36, vI (((idx a1 x710).args).length : Int)), (37, vI x985)] ∧ Inv M w [.row (tInt .i64) 3 A707 l706.length c708 l706, mapA (fun x : Int => vI x) (fun _ : Unit => .agg #[]) b2 m1000, .blk b867 118 [vI ((idx a1 x710).txn), vS A863 (((idx a1 x710).args).length) c864]]) (fun (m1000, x1001) => source_set.j5 x985 m1000 x1001) ?_ (fun hJ1002 => ?_)
          · clear H hI
            rintro ⟨m1000, x1001⟩ _ _ ⟨_, rfl, hI⟩ H
            refine rp 2 ?_
            exact hin3 _ (Option.some.inj H).symm _ _ ⟨_, at_, hI⟩
          · refine go_seq (r_in ?_)
            replace H := must_some H
            obtain ⟨g1006, H⟩ := H
            obtain ⟨b1007, q1008, rfl, _⟩ := rdS.fopen hr865 rfl g1006
            refine bx 0 [.x, .l 0 0, .p] (gA (hI.lies (rdS.flook hr865 rfl g1006))) _ (bZ g1006) (ro (go_seq (r_in (bp 0 2 (oe 2 rfl ?_)))))
            refine e_lookup (ek := (fun x : Int => vI x)) (ev := (fun _ : Unit => .agg #[])) 170 2 141 _ _ true b2 m983 (idx ((idx a1 x710).args) x985) rfl (by kernel_rfl) (key_int (by kernel_rfl)) (fun _ => by kernel_rfl) (by kernel_rfl) (by kernel_rfl) (hI.mapAt 1 rfl) ?_
            refine bp 3 3 (oe 6 rfl ?_)
            refine e_alloc 141 (.agg #[]) [] rfl (by kernel_rfl) rfl hI ?_
            clear hI
            intro b1010 _ hI
            refine oe 7 rfl ?_
            refine e_store 141 _ _ 3 b1010 141 [] [] 0 (.agg #[]) rfl (by kernel_rfl) (by kernel_rfl) (by kernel_rfl) (by kernel_rfl) hI rfl (by kernel_rfl) (by kernel_rfl) ?_
            clear hI
            intro _ hI
            refine bp 8 1 (ro (go_seq (rp 1 ?_)))
            replace H := cond_some H
            rcases H with ⟨hc1011, H⟩ | ⟨hc1011, H⟩
            · refine gt hc1011 (go_seq (r_in (bp 0 2 (oe 2 rfl ?_))))
              refine e_mapdel (ek := (fun x : Int => vI x)) (ev := (fun _ : Unit => .agg #[])) 170 2 141 _ _ _ 1 b2 m983 (idx ((idx a1 x710).args) x985) rfl (by kernel_rfl) (key_int (by kernel_rfl)) (by kernel_rfl) (by kernel_rfl) hI rfl ?_
              clear hI
              intro _ hI
              refine ro (rp 3 (go_inBlock ?_))
              exact hJ1002 (mdel m983 (idx ((idx a1 x710).args) x985), w64 (x984 + 1)) _ _ ⟨_, at_, hI.pick [0, 1, 2] (by decide) rfl⟩ H
            · refine ge hc1011 (go_skip (go_inBlock ?_))
              exact hJ1002 (m983, x984) _ _ ⟨_, at_, hI.pick [0, 1, 2] (by decide) rfl⟩ H
        · refine ge hc987 ?_
          refine go_exit rfl ?_
          refine go_seq ?_
          refine go_seq_join (o := o3) (fun b1016 f w => ∃ (j : Nat → Value), f = updL j [(6, vS A707 l706.length c708), (7, .map (some b2)), (11, vP b867 0), (12, vI x984), (28, vS (some ⟨b861, q862, none⟩) a1.length c1z), (29, vI (a1.length : Int)), (30, vI x710), (61, vB b1016)] ∧ Inv M w [.row (tInt .i64) 3 A707 l706.length c708 l706, mapA (fun x : Int => vI x) (fun _ : Unit => .agg #[]) b2 m983, .blk b867 118 [vI ((idx a1 x710).txn), vS A863 (((idx a1 x710).args).length) c864]]) (fun b1016 => source_set.j6 a1 l706 x710 m983 x984 b1016) ?_ (fun hJ1017 => ?_)
          · clear H hI
            rintro b1016 _ _ ⟨_, rfl, hI⟩ H
            replace H := cond_some H
            rcases H with ⟨hc1018, H⟩ | ⟨hc1018, H⟩
            · refine gt hc1018 (go_seq (rp 2 ?_))
              replace H := out_some H
              obtain ⟨_, H, he3⟩ := H
              have he := (hout3 _ he3).symm
              subst he
              replace H := out_some H
              obtain ⟨_, H, he2⟩ := H
              have he := (hout2 _ he2).symm
              subst he
              replace H := out_some H
              obtain ⟨_, H, he1⟩ := H
              have he := (hout1 _ he1).symm
              subst he
              replace H := Option.some.inj H
              subst H
              exact gr Try.func82 ⟨none, 0, rfl, (hI.nilrow (tInt .i64) 3).pick [3] (by decide) rfl⟩
            · refine ge hc1018 (go_skip (go_seq (rp 2 ?_)))
              replace H := cond_some H
              rcases H with ⟨hc1019, H⟩ | ⟨hc1019, H⟩
              · refine gt hc1019 (r_in (bg 0 [.p, .p, .l 0 0] (gA (hI.grp 2 rfl)) (oe 3 rfl ?_)))
                refine e_partsS 32 3 1 _ _ _ #[vI ((idx a1 x710).txn)] [vI ((idx a1 x710).txn)] rfl rfl rfl rfl (by kernel_rfl) (by kernel_rfl) (by kernel_rfl) (by kernel_rfl) hI ?_
                clear hI
                intro b1020 _ hs1021 hI
                replace H := must_some H
                obtain ⟨g1022, H⟩ := H
                refine oe 4 rfl ?_
                refine e_append (tInt .i64) 32 0 3 _ _ _ _ A707 l706.length c708 l706 ([(idx a1 x710).txn] : List Int) b1020 0 1 1 [vI ((idx a1 x710).txn)] 0 [] [1, 2, 3] [] [mapA (fun x : Int => vI x) (fun _ : Unit => .agg #[]) b2 m983, .blk b867 118 [vI ((idx a1 x710).txn), vS A863 (((idx a1 x710).args).length) c864], .blk b1020 3 [vI ((idx a1 x710).txn)]] rfl (by kernel_rfl) (by kernel_rfl) rfl rfl rfl rfl rfl (by kernel_rfl) hI (by decide) rfl rfl rfl (hI.grp 3 rfl) g1022 (mks_cons (mk_flat (k := (tInt .i64)) ((idx a1 x710).txn) [vI ((idx a1 x710).txn)] rfl) mks_nil) ?_
                clear hI
                intro A1023 c1024 _ hI
                replace hI := hI.pick (L' := [.row (tInt .i64) 3 A1023 ((l706 ++ ([(idx a1 x710).txn] : List Int)).length) c1024 (l706 ++ ([(idx a1 x710).txn] : List Int)), mapA (fun x : Int => vI x) (fun _ : Unit => .agg #[]) b2 m983, .blk b867 118 [vI ((idx a1 x710).txn), vS A863 (((idx a1 x710).args).length) c864]]) [0, 1, 2] (by decide) rfl
                refine bp 5 1 (ro (go_inBlock ?_))
                replace H := out_some H
                obtain ⟨_, H, he3⟩ := H
                have he := (hout3 _ he3).symm
                subst he
                exact hJ845 (l706 ++ ([(idx a1 x710).txn] : List Int), m983) _ _ ⟨_, A1023, c1024, at_, hI.pick [0, 1] (by decide) rfl⟩ H
              · refine ge hc1019 (go_skip (go_inBlock ?_))
                replace H := out_some H
                obtain ⟨_, H, he3⟩ := H
                have he := (hout3 _ he3).symm
                subst he
                exact hJ845 (l706, m983) _ _ ⟨_, A707, c708, at_, hI.pick [0, 1] (by decide) rfl⟩ H
          · refine r_in ?_
            replace H := cond_some H
            rcases H with ⟨hc1025, H⟩ | ⟨hc1025, H⟩
            · refine bx 0 [.p, .p, .c true, .p, .p, .l 0 1, .p, .p, .p] (gA (hI.grp 2 rfl)) _ (bZ (bndEq hc1025)) (ro ?_)
              exact hJ1017 (decide (x984 < (((idx a1 x710).args).length : Int))) _ _ ⟨_, at_, hI⟩ H
            · refine bx 0 [.p, .p, .c false, .p, .p, .p, .p, .p, .p] gO _ (bZ (bndEq hc1025)) (ro ?_)
              exact hJ1017 false _ _ ⟨_, at_, hI⟩ H
    · refine ge hc712 ?_
      refine go_exit rfl ?_
      refine go_seq (go_seq (r_in (bp 0 1 (oe 1 rfl ?_))))
      refine e_maplen (ek := (fun x : Int => vI x)) (ev := (fun _ : Unit => .agg #[])) 170 _ _ b2 m709 2 141 rfl rfl (by kernel_rfl) (by kernel_rfl) (hI.mapAt 1 rfl) ?_
      refine bp 2 1 (ro ?_)
      replace H := cond_some H
      rcases H with ⟨hc1027, H⟩ | ⟨hc1027, H⟩
      · refine gt hc1027 (go_seq (rp 2 ?_))
        replace H := out_some H
        obtain ⟨_, H, he2⟩ := H
        have he := (hout2 _ he2).symm
        subst he
        replace H := out_some H
        obtain ⟨_, H, he1⟩ := H
        have he := (hout1 _ he1).symm
        subst he
        replace H := Option.some.inj H
        subst H
        exact gr Try.func82 ⟨none, 0, rfl, (hI.nilrow (tInt .i64) 3).pick [2] (by decide) rfl⟩
      · refine ge hc1027 (go_skip (go_seq (rp 3 ?_)))
        replace H := out_some H
        obtain ⟨_, H, he2⟩ := H
        have he := (hout2 _ he2).symm
        subst he
        replace H := out_some H
        obtain ⟨_, H, he1⟩ := H
        have he := (hout1 _ he1).symm
        subst he
        replace H := Option.some.inj H
        subst H
        exact gr Try.func82 ⟨A707, c708, rfl, hI.pick [0] (by decide) rfl⟩
theorem enter46 (a : Array Value) : Sem.pureRun Try.prog (callFunc 46 a) = some (.enter 46 a) := by kernel_rfl
theorem source_parts_calls (a0 : History) (A0z0 : Option Addr) (c0z0 : Nat) (A0z1 : Option Addr) (c0z1 : Nat) (a1 : Ask) (A1z0 : Option Addr) (c1z0 : Nat) (M : Mem) (w : World) (hI : Inv M w []) (hr0z0 : rdS tStr M.blk A0z0 a0.Keys) (hl0z0 : a0.Keys.length ≤ c0z0) (hr0z1 : rdS kTxn M.blk A0z1 a0.Txns) (hl0z1 : a0.Txns.length ≤ c0z1) (hr1z0 : rdS (tInt .i64) M.blk A1z0 a1.Base) (hl1z0 : a1.Base.length ≤ c1z0) (r : List Int × Bool) (H : source_parts a0 a1 = some r) :
    Calls Try.prog 46 #[.agg #[vS A0z0 a0.Keys.length c0z0, vS A0z1 a0.Txns.length c0z1], .agg #[vI a1.Txn, vI a1.Place, vI a1.Key, vS A1z0 a1.Base.length c1z0]] w fun e w' => ∃ (A82 : Option Addr), ∃ (c83 : Nat), e = .returned (.tuple #[vS A82 r.1.length c83, vB r.2]) ∧ Inv M w' [.row (tInt .i64) 3 A82 r.1.length c83 r.1] := by
  refine cg Try.func46 ?_
  intro cs
  unfold source_parts at H
  refine go_seq (r_in (oe 0 rfl ?_))
  refine e_box 25 _ (.agg #[vS A0z0 a0.Keys.length c0z0, vS A0z1 a0.Txns.length c0z1]) [vS A0z0 a0.Keys.length c0z0, vS A0z1 a0.Txns.length c0z1] rfl (by kernel_rfl) rfl hI ?_
  clear hI
  intro b3 _ hI
  refine oe 1 rfl ?_
  refine e_box 37 _ (.agg #[vI a1.Txn, vI a1.Place, vI a1.Key, vS A1z0 a1.Base.length c1z0]) [vI a1.Txn, vI a1.Place, vI a1.Key, vS A1z0 a1.Base.length c1z0] rfl (by kernel_rfl) rfl hI ?_
  clear hI
  intro b4 _ hI
  refine bp 2 2 (ro (go_seq (go_seq (r_in (bg 0 [.l 0 0, .p, .l 1 2] (gB (hI.grp 0 rfl) (hI.grp 1 rfl)) ?_)))))
  replace H := bind_some H
  obtain ⟨y27, hy28, H⟩ := H
  refine oe 3 rfl ?_
  refine ec (enter21 _) (index_Type_calls a0 A0z0 c0z0 A0z1 c0z1 a1.Key (memOf _) _ (Inv.start _) (hI.rd hr0z0) hl0z0 (hI.rd hr0z1) hl0z1 _ hy28) ?_
  rintro _ _ ⟨rfl, hI'⟩
  replace hI := hI.call0 hI'
  clear hI'
  refine ⟨_, rfl, ?_⟩
  refine ro (go_block (go_seq (rp 2 ?_)))
  replace H := cond_some H
  rcases H with ⟨hc47, H⟩ | ⟨hc47, H⟩
  · refine gt hc47 (go_seq ?_)
    replace H := bind_some H
    obtain ⟨y56, hy57, H⟩ := H
    replace H := bind_some H
    obtain ⟨y60, hy61, H⟩ := H
    refine go_held (fun w => Inv M w [.blk b3 25 [vS A0z0 a0.Keys.length c0z0, vS A0z1 a0.Txns.length c0z1], .blk b4 37 [vI a1.Txn, vI a1.Place, vI a1.Key, vS A1z0 a1.Base.length c1z0]]) (by kernel_rfl) ?_
    replace hI := hI.drew'
    refine hg (n := 6) [(0, .p), (1, .l 0 3), (2, .l 1 0), (3, .l 0 0)] (fun _ hS => (gB (hS.grp 1 rfl) (hS.grp 0 rfl))) hI ?_
    refine ho (n := 5) 4 rfl (ec (enter63 _) (source_finals_calls a0 A0z0 c0z0 A0z1 c0z1 a1 A1z0 c1z0 (memOf _) _ (Inv.start _) (hI.rd hr0z0) hl0z0 (hI.rd hr0z1) hl0z1 (hI.rd hr1z0) hl1z0 _ hy57) ?_)
    rintro _ _ ⟨A58, c59, rfl, hI'⟩
    replace hI := hI.call0 hI'
    clear hI'
    refine ⟨_, rfl, ?_⟩
    refine ⟨(hI.pk [0, 1]), ?_⟩
    refine ho (n := 4) 5 rfl (ec (enter81 _) (source_list_calls A1z0 c1z0 a1.Base A58 c59 y56 (memOf _) _ (Inv.start _) (hI.rd hr1z0) hl1z0 (hI.row 2 rfl) (hI.rowle 2 rfl) _ hy61) ?_)
    rintro _ _ ⟨A62, c63, rfl, hI'⟩
    replace hI := hI.call0 hI'
    clear hI'
    refine ⟨_, rfl, ?_⟩
    refine ⟨(hI.pk [0, 1]), ?_⟩
    refine hg (n := 0) [(6, .p), (7, .p), (8, .p), (9, .p)] (fun _ hS => gO) (hI.pk [0, 1]) (hd ?_)
    replace H := Option.some.inj H
    subst H
    exact gr Try.func46 ⟨A62, c63, rfl, hI.pick [3] (by decide) rfl⟩
  · refine ge hc47 (go_seq (rp 2 ?_))
    replace H := cond_some H
    rcases H with ⟨hc64, H⟩ | ⟨hc64, H⟩
    · refine gt hc64 (go_seq ?_)
      replace H := bind_some H
      obtain ⟨y73, hy74, H⟩ := H
      replace H := bind_some H
      obtain ⟨y77, hy78, H⟩ := H
      refine go_held (fun w => Inv M w [.blk b3 25 [vS A0z0 a0.Keys.length c0z0, vS A0z1 a0.Txns.length c0z1], .blk b4 37 [vI a1.Txn, vI a1.Place, vI a1.Key, vS A1z0 a1.Base.length c1z0]]) (by kernel_rfl) ?_
      replace hI := hI.drew'
      refine hg (n := 6) [(0, .p), (1, .l 0 3), (2, .l 1 0), (3, .l 0 0)] (fun _ hS => (gB (hS.grp 1 rfl) (hS.grp 0 rfl))) hI ?_
      refine ho (n := 5) 4 rfl (ec (enter63 _) (source_finals_calls a0 A0z0 c0z0 A0z1 c0z1 a1 A1z0 c1z0 (memOf _) _ (Inv.start _) (hI.rd hr0z0) hl0z0 (hI.rd hr0z1) hl0z1 (hI.rd hr1z0) hl1z0 _ hy74) ?_)
      rintro _ _ ⟨A75, c76, rfl, hI'⟩
      replace hI := hI.call0 hI'
      clear hI'
      refine ⟨_, rfl, ?_⟩
      refine ⟨(hI.pk [0, 1]), ?_⟩
      refine ho (n := 4) 5 rfl (ec (enter82 _) (source_set_calls A1z0 c1z0 a1.Base A75 c76 y73 (memOf _) _ (Inv.start _) (hI.rd hr1z0) hl1z0 (hI.row 2 rfl) (hI.rowle 2 rfl) _ hy78) ?_)
      rintro _ _ ⟨A79, c80, rfl, hI'⟩
      replace hI := hI.call0 hI'
      clear hI'
      refine ⟨_, rfl, ?_⟩
      refine ⟨(hI.pk [0, 1]), ?_⟩
      refine hg (n := 0) [(6, .p), (7, .p), (8, .p), (9, .p)] (fun _ hS => gO) (hI.pk [0, 1]) (hd ?_)
      replace H := Option.some.inj H
      subst H
      exact gr Try.func46 ⟨A79, c80, rfl, hI.pick [3] (by decide) rfl⟩
    · refine ge hc64 (go_skip (go_inBlock (go_seq (rp 2 ?_))))
      replace H := Option.some.inj H
      subst H
      exact gr Try.func46 ⟨none, 0, rfl, (hI.nilrow (tInt .i64) 3).pick [2] (by decide) rfl⟩
theorem enter89 (a : Array Value) : Sem.pureRun Try.prog (callFunc 89 a) = some (.enter 89 a) := by kernel_rfl
theorem source_counter_1.body_calls (rec : Int → Int → Int → (List SourceFinal) → Int → Int → Option Int) (hrec : ∀ (a0 : Int) (a1 : Int) (a2 : Int) (b3z : Nat) (a3 : List SourceFinal) (A3z0 : Option Addr) (c3z0 : Nat) (b4z : Nat) (a4 : Int) (b5z : Nat) (a5 : Int) (b6z : Nat) (M : Mem) (w : World) (hI : Inv M w [.blk b5z 154 [.int .u64 a5]]) (hb3z : Lies M.blk (b3z, 0, [vS A3z0 a3.length c3z0])) (hr3z0 : rdS kSourceFinal M.blk A3z0 a3) (hl3z0 : a3.length ≤ c3z0) (hb4z : Lies M.blk (b4z, 0, [vI a4])) (hb6z : Lies M.blk (b6z, 0, [.func (.func 89) #[] #[vP b3z 0, vP b4z 0, vP b5z 0, vP b6z 0]])) (r : Int) (H : rec a0 a1 a2 a3 a4 a5 = some r),
    Calls Try.prog 89 #[vI a0, vI a1, .int .u64 a2, vP b3z 0, vP b4z 0, vP b5z 0, vP b6z 0] w fun e w' => e = .returned (.tuple #[]) ∧ Inv M w' [.blk b5z 154 [.int .u64 r]]) (a0 : Int) (a1 : Int) (a2 : Int) (b3z : Nat) (a3 : List SourceFinal) (A3z0 : Option Addr) (c3z0 : Nat) (b4z : Nat) (a4 : Int) (b5z : Nat) (a5 : Int) (b6z : Nat) (M : Mem) (w : World) (hI : Inv M w [.blk b5z 154 [.int .u64 a5]]) (hb3z : Lies M.blk (b3z, 0, [vS A3z0 a3.length c3z0])) (hr3z0 : rdS kSourceFinal M.blk A3z0 a3) (hl3z0 : a3.length ≤ c3z0) (hb4z : Lies M.blk (b4z, 0, [vI a4])) (hb6z : Lies M.blk (b6z, 0, [.func (.func 89) #[] #[vP b3z 0, vP b4z 0, vP b5z 0, vP b6z 0]])) (r : Int) (H : source_counter_1.body rec a0 a1 a2 a3 a4 a5 = some r) :
    Calls Try.prog 89 #[vI a0, vI a1, .int .u64 a2, vP b3z 0, vP b4z 0, vP b5z 0, vP b6z 0] w fun e w' => e = .returned (.tuple #[]) ∧ Inv M w' [.blk b5z 154 [.int .u64 r]] := by
  refine cg Try.func89 ?_
  intro cs
  unfold source_counter_1.body at H
  refine go_seq (go_seq (rg [.p, .l 0 0, .p, .p] (gA (hI.lies hb3z)) ?_))
  replace H := cond_some H
  rcases H with ⟨hc4, H⟩ | ⟨hc4, H⟩
  · refine gt hc4 (go_seq (go_seq (rg [.p, .l 0 0, .p] (gA (hI.lies hb4z)) ?_)))
    replace H := cond_some H
    rcases H with ⟨hc6, H⟩ | ⟨hc6, H⟩
    · refine gt hc6 (r_in (bg 0 [.l 0 0, .p, .p] (gA (hI.grp 0 rfl)) (oe 3 rfl ?_)))
      refine e_store 154 _ _ 0 b5z 154 [.int .u64 a5] [.int .u64 (bOr .u64 a5 a2)] 0 (.int .u64 (bOr .u64 a5 a2)) rfl (by kernel_rfl) (by kernel_rfl) (by kernel_rfl) (by kernel_rfl) hI rfl (by kernel_rfl) (by kernel_rfl) ?_
      clear hI
      intro _ hI
      refine ro ?_
      replace H := Option.some.inj H
      subst H
      exact gr Try.func89 ⟨rfl, hI⟩
    · refine ge hc6 (go_skip ?_)
      replace H := Option.some.inj H
      subst H
      exact gr Try.func89 ⟨rfl, hI⟩
  · refine ge hc4 (go_skip (go_seq (r_in (bg 0 [.l 0 0, .p, .p, .p, .p] (gA (hI.lies hb6z)) ?_))))
    replace H := bind_some H
    obtain ⟨y19, hy20, H⟩ := H
    obtain ⟨M14, hJ15, hs16, hro17, hback18⟩ := hI.call (R := [.blk b5z 154 [.int .u64 a5]]) (L0 := []) [0] [] (by decide) rfl
    refine oe 5 rfl ?_
    refine e_callf _ _ _ 89 #[] #[vP b3z 0, vP b4z 0, vP b5z 0, vP b6z 0] #[vI (w64 (a0 + 1)), vI a1, .int .u64 a2] #[vI (w64 (a0 + 1)), vI a1, .int .u64 a2, vP b3z 0, vP b4z 0, vP b5z 0, vP b6z 0] rfl (by kernel_rfl) (by kernel_rfl) (by kernel_rfl) (enter89 _) (hrec (w64 (a0 + 1)) a1 a2 b3z a3 A3z0 c3z0 b4z a4 b5z a5 b6z M14 _ hJ15 (Lies.mono hb3z hs16) (rdS.mono hr3z0 hs16) hl3z0 (Lies.mono hb4z hs16) (Lies.mono hb6z hs16) _ hy20) ?_
    rintro _ _ ⟨rfl, hI'⟩
    replace hI := hback18 _ _ hI'
    clear hI'
    refine ⟨_, rfl, ?_⟩
    refine ro (go_seq (go_seq (r_in ?_)))
    replace H := must_some H
    obtain ⟨g65, H⟩ := H
    obtain ⟨b69, q70, rfl, cs68, hk67, hg66⟩ := rdS.open hr3z0 rfl g65
    obtain ⟨_, _, rfl, rfl, ⟨A71, c72, rfl, hl74, hr73⟩⟩ := hk67
    refine bx 0 [.l 0 0, .p, .x, .p, .l 1 1, .p, .p] (gB (hI.lies hb3z) (hI.lies hg66)) _ (bZ g65) (ro (go_block ?_))
    refine go_iter (source_counter_1.s1 a0 a2 a3 a4 rec y19) (fun (x117, x118) f w => ∃ (j : Nat → Value), f = updL j [(0, vI a0), (1, vI x117), (2, .int .u64 a2), (5, vP b5z 0), (6, vP b6z 0), (32, vS A71 (((idx a3 a0).args).length) c72), (33, vI (((idx a3 a0).args).length : Int)), (34, vI x118)] ∧ Inv M w [.blk b5z 154 [.int .u64 y19]]) H ⟨_, at_, hI⟩ ?_
    clear H hI
    rintro ⟨x117, x118⟩ _ _ o1 H ⟨_, rfl, hI⟩ hin1 hout1
    refine go_seq (rp 1 (go_seq ?_))
    replace H := cond_some H
    rcases H with ⟨hc120, H⟩ | ⟨hc120, H⟩
    · refine gt hc120 (go_skip (go_seq (go_block (go_seq (r_in ?_)))))
      replace H := must_some H
      obtain ⟨g130, H⟩ := H
      obtain ⟨b131, q132, rfl, _⟩ := rdS.fopen hr73 rfl g130
      refine bx 0 [.x, .l 0 0, .p] (gA (hI.lies (rdS.flook hr73 rfl g130))) _ (bZ g130) (ro (rp 4 (go_inBlock (rp 2 ?_))))
      exact hin1 _ (Option.some.inj H).symm _ _ ⟨_, at_, hI⟩
    · refine ge hc120 ?_
      refine go_exit rfl ?_
      replace H := must_some H
      obtain ⟨g133, H⟩ := H
      replace H := bind_some H
      obtain ⟨y139, hy140, H⟩ := H
      refine d_tail' 8 _ [(b6z, 0, [.func (.func 89) #[] #[vP b3z 0, vP b4z 0, vP b5z 0, vP b6z 0]])] [.l 0 0, .p, .p, .p, .p, .p, .x, .p] [(42, .func (.func 89) #[] #[vP b3z 0, vP b4z 0, vP b5z 0, vP b6z 0]), (43, vI a0), (44, vI (w64 (a0 + 1))), (45, vI x117), (46, .int .u64 a2), (47, vI a0), (48, .int .u64 (sShl .u64 1 a0)), (49, .int .u64 (bOr .u64 a2 (sShl .u64 1 a0)))] [(a0, far)] (by kernel_rfl) (by kernel_rfl) rfl rfl ⟨(hI.lies hb6z), trivial⟩ ⟨g133, trivial⟩ (by kernel_rfl) (by kernel_rfl) (by kernel_rfl) (by kernel_rfl) hI ?_
      clear hI
      intro _ hI hsame
      obtain ⟨M134, hJ135, hs136, hro137, hback138⟩ := hI.call (R := [.blk b5z 154 [.int .u64 y19]]) (L0 := []) [0] [] (by decide) rfl
      refine e_callf _ _ _ 89 #[] #[vP b3z 0, vP b4z 0, vP b5z 0, vP b6z 0] #[vI (w64 (a0 + 1)), vI x117, .int .u64 (bOr .u64 a2 (sShl .u64 1 a0))] #[vI (w64 (a0 + 1)), vI x117, .int .u64 (bOr .u64 a2 (sShl .u64 1 a0)), vP b3z 0, vP b4z 0, vP b5z 0, vP b6z 0] rfl (by kernel_rfl) (by kernel_rfl) (by kernel_rfl) (enter89 _) (hrec (w64 (a0 + 1)) x117 (bOr .u64 a2 (sShl .u64 1 a0)) b3z a3 (some ⟨b69, q70, none⟩) c3z0 b4z a4 b5z y19 b6z M134 _ hJ135 (Lies.mono hb3z hs136) (rdS.mono hr3z0 hs136) hl3z0 (Lies.mono hb4z hs136) (Lies.mono hb6z hs136) _ hy140) ?_
      rintro _ _ ⟨rfl, hI'⟩
      replace hI := hback138 _ _ hI'
      clear hI'
      refine ⟨_, rfl, ?_⟩
      replace H := out_some H
      obtain ⟨_, H, he1⟩ := H
      have he := (hout1 _ he1).symm
      subst he
      replace H := Option.some.inj H
      subst H
      exact go_finish (.tuple #[]) Try.func89 (by kernel_rfl) ⟨rfl, hI⟩
theorem source_counter_1.fuel_calls : ∀ (k : Nat) (a0 : Int) (a1 : Int) (a2 : Int) (b3z : Nat) (a3 : List SourceFinal) (A3z0 : Option Addr) (c3z0 : Nat) (b4z : Nat) (a4 : Int) (b5z : Nat) (a5 : Int) (b6z : Nat) (M : Mem) (w : World) (hI : Inv M w [.blk b5z 154 [.int .u64 a5]]) (hb3z : Lies M.blk (b3z, 0, [vS A3z0 a3.length c3z0])) (hr3z0 : rdS kSourceFinal M.blk A3z0 a3) (hl3z0 : a3.length ≤ c3z0) (hb4z : Lies M.blk (b4z, 0, [vI a4])) (hb6z : Lies M.blk (b6z, 0, [.func (.func 89) #[] #[vP b3z 0, vP b4z 0, vP b5z 0, vP b6z 0]])) (r : Int) (H : source_counter_1.fuel k a0 a1 a2 a3 a4 a5 = some r),
    Calls Try.prog 89 #[vI a0, vI a1, .int .u64 a2, vP b3z 0, vP b4z 0, vP b5z 0, vP b6z 0] w fun e w' => e = .returned (.tuple #[]) ∧ Inv M w' [.blk b5z 154 [.int .u64 r]]
  | 0 => fun _ _ _ _ _ _ _ _ _ _ _ _ _ _ _ _ _ _ _ _ _ H => nomatch H
  | k + 1 => source_counter_1.body_calls (source_counter_1.fuel k) (source_counter_1.fuel_calls k)
theorem source_counter_1zcalls (a0 : Int) (a1 : Int) (a2 : Int) (b3z : Nat) (a3 : List SourceFinal) (A3z0 : Option Addr) (c3z0 : Nat) (b4z : Nat) (a4 : Int) (b5z : Nat) (a5 : Int) (b6z : Nat) (M : Mem) (w : World) (hI : Inv M w [.blk b5z 154 [.int .u64 a5]]) (hb3z : Lies M.blk (b3z, 0, [vS A3z0 a3.length c3z0])) (hr3z0 : rdS kSourceFinal M.blk A3z0 a3) (hl3z0 : a3.length ≤ c3z0) (hb4z : Lies M.blk (b4z, 0, [vI a4])) (hb6z : Lies M.blk (b6z, 0, [.func (.func 89) #[] #[vP b3z 0, vP b4z 0, vP b5z 0, vP b6z 0]])) (r : Int) (H : source_counter_1 a0 a1 a2 a3 a4 a5 = some r) :
    Calls Try.prog 89 #[vI a0, vI a1, .int .u64 a2, vP b3z 0, vP b4z 0, vP b5z 0, vP b6z 0] w fun e w' => e = .returned (.tuple #[]) ∧ Inv M w' [.blk b5z 154 [.int .u64 r]] := source_counter_1.fuel_calls 64 a0 a1 a2 b3z a3 A3z0 c3z0 b4z a4 b5z a5 b6z M w hI hb3z hr3z0 hl3z0 hb4z hb6z r H
theorem enter62 (a : Array Value) : Sem.pureRun Try.prog (callFunc 62 a) = some (.enter 62 a) := by kernel_rfl
theorem source_counter_calls (a0 : Int) (A1z : Option Addr) (c1z : Nat) (a1 : List SourceFinal) (M : Mem) (w : World) (hI : Inv M w []) (hr1z : rdS kSourceFinal M.blk A1z a1) (hl1z : a1.length ≤ c1z) (r : List Int) (H : source_counter a0 a1 = some r) :
    Calls Try.prog 62 #[vI a0, vS A1z a1.length c1z] w fun e w' => ∃ (A347 : Option Addr), ∃ (c348 : Nat), e = .returned (vS A347 r.length c348) ∧ Inv M w' [.row (tInt .i64) 3 A347 r.length c348 r] := by
  refine cg Try.func62 ?_
  intro cs
  unfold source_counter at H
  refine go_seq (r_in (oe 0 rfl ?_))
  refine e_box 2 _ (vI a0) [vI a0] rfl (by kernel_rfl) rfl hI ?_
  clear hI
  intro b3 _ hI
  refine oe 1 rfl ?_
  refine e_box 115 _ (vS A1z a1.length c1z) [vS A1z a1.length c1z] rfl (by kernel_rfl) rfl hI ?_
  clear hI
  intro b4 _ hI
  refine bp 2 1 (ro (go_seq (r_in (oe 0 rfl ?_))))
  refine e_alloc 154 (.int .u64 0) [.int .u64 0] rfl (by kernel_rfl) rfl hI ?_
  clear hI
  intro b6 _ hI
  refine ro (go_seq (r_in (oe 0 rfl ?_)))
  refine e_alloc 155 (.nilFunc) [.nilFunc] rfl (by kernel_rfl) rfl hI ?_
  clear hI
  intro b8 _ hI
  refine ro (go_seq (r_in (bp 0 1 (oe 1 rfl ?_))))
  refine e_store 155 _ _ 3 b8 155 [.nilFunc] [.func (.func 89) #[] #[vP b4 0, vP b3 0, vP b6 0, vP b8 0]] 0 (.func (.func 89) #[] #[vP b4 0, vP b3 0, vP b6 0, vP b8 0]) rfl (by kernel_rfl) (by kernel_rfl) (by kernel_rfl) (by kernel_rfl) hI rfl (by kernel_rfl) (by kernel_rfl) ?_
  clear hI
  intro _ hI
  refine ro (go_seq (r_in (bg 0 [.l 0 0] (gA (hI.grp 3 rfl)) ?_)))
  replace H := bind_some H
  obtain ⟨y21, hy22, H⟩ := H
  obtain ⟨M16, hJ17, hs18, hro19, hback20⟩ := hI.call (R := [.blk b6 154 [.int .u64 0]]) (L0 := [.blk b3 2 [vI a0], .blk b4 115 [vS A1z a1.length c1z], .blk b8 155 [.func (.func 89) #[] #[vP b4 0, vP b3 0, vP b6 0, vP b8 0]]]) [2] [0, 1, 3] (by decide) rfl
  refine oe 1 rfl ?_
  refine e_callf _ _ _ 89 #[] #[vP b4 0, vP b3 0, vP b6 0, vP b8 0] #[vI 0, vI 0, .int .u64 0] #[vI 0, vI 0, .int .u64 0, vP b4 0, vP b3 0, vP b6 0, vP b8 0] rfl (by kernel_rfl) (by kernel_rfl) (by kernel_rfl) (enter89 _) (source_counter_1zcalls 0 0 0 b4 a1 A1z c1z b3 a0 b6 0 b8 M16 _ hJ17 (blkOwn.lies (hro19 1 _ rfl).choose_spec) (rdS.mono hr1z hs18) hl1z (blkOwn.lies (hro19 0 _ rfl).choose_spec) (blkOwn.lies (hro19 2 _ rfl).choose_spec) _ hy22) ?_
  rintro _ _ ⟨rfl, hI'⟩
  replace hI := hback20 _ _ hI'
  clear hI'
  refine ⟨_, rfl, ?_⟩
  refine ro (go_seq (rp 1 (go_seq (go_seq (rg [.l 0 0, .p, .p] (gA (hI.grp 2 rfl)) (go_block ?_))))))
  refine go_iter (source_counter.s1 a1 y21) (fun (l267, x270) f w => ∃ (j : Nat → Value) (A268 : Option Addr) (c269 : Nat), f = updL j [(5, vP b6 0), (7, vS A268 l267.length c269), (13, vS A1z a1.length c1z), (14, vI (a1.length : Int)), (15, vI x270)] ∧ Inv M w [.blk b6 154 [.int .u64 y21], .row (tInt .i64) 3 A268 l267.length c269 l267]) H ⟨_, none, 0, at_, (hI.nilrow (tInt .i64) 3).pick [0, 4] (by decide) rfl⟩ ?_
  clear H hI
  rintro ⟨l267, x270⟩ _ _ o1 H ⟨_, A268, c269, rfl, hI⟩ hin1 hout1
  refine go_seq (rp 1 (go_seq ?_))
  replace H := cond_some H
  rcases H with ⟨hc272, H⟩ | ⟨hc272, H⟩
  · refine gt hc272 (go_skip (go_seq ?_))
    refine go_block_join (o := o1) (fun l312 f w => ∃ (j : Nat → Value) (A313 : Option Addr) (c314 : Nat), f = updL j [(5, vP b6 0), (7, vS A313 l312.length c314), (13, vS A1z a1.length c1z), (14, vI (a1.length : Int)), (15, vI x270)] ∧ Inv M w [.blk b6 154 [.int .u64 y21], .row (tInt .i64) 3 A313 l312.length c314 l312]) (fun l312 => source_counter.j2 x270 l312) ?_ (fun hJ315 => ?_)
    · clear H hI
      rintro l312 _ _ ⟨_, A313, c314, rfl, hI⟩ H
      refine rp 2 ?_
      exact hin1 _ (Option.some.inj H).symm _ _ ⟨_, A313, c314, at_, hI⟩
    · refine go_seq (r_in ?_)
      replace H := must_some H
      obtain ⟨g327, H⟩ := H
      obtain ⟨b331, q332, rfl, cs330, hk329, hg328⟩ := rdS.open hr1z rfl g327
      obtain ⟨_, _, rfl, rfl, ⟨A333, c334, rfl, hl336, hr335⟩⟩ := hk329
      refine bx 0 [.p, .x, .l 0 0] (gA (hI.lies hg328)) _ (bZ g327) (oe 3 rfl ?_)
      refine e_alloc 118 (.agg #[vI 0, vS none 0 0]) [vI 0, vS none 0 0] rfl (by kernel_rfl) rfl hI ?_
      clear hI
      intro b337 _ hI
      refine bp 4 1 (oe 5 rfl ?_)
      refine e_store 118 _ _ 2 b337 118 [vI 0, vS none 0 0] [vI ((idx a1 x270).txn), vS A333 (((idx a1 x270).args).length) c334] 0 (.agg #[vI ((idx a1 x270).txn), vS A333 (((idx a1 x270).args).length) c334]) rfl (by kernel_rfl) (by kernel_rfl) (by kernel_rfl) (by kernel_rfl) hI rfl (by kernel_rfl) (by kernel_rfl) ?_
      clear hI
      intro _ hI
      refine ro (go_seq (r_in ?_))
      replace H := must_some H
      obtain ⟨g339, H⟩ := H
      refine bx 0 [.l 0 0, .p, .x, .p, .p] (gA (hI.grp 0 rfl)) _ (bZ g339) (ro ?_)
      replace H := cond_some H
      rcases H with ⟨hc340, H⟩ | ⟨hc340, H⟩
      · refine gt hc340 (r_in (bg 0 [.p, .p, .l 0 0] (gA (hI.grp 2 rfl)) (oe 3 rfl ?_)))
        refine e_partsS 32 3 1 _ _ _ #[vI ((idx a1 x270).txn)] [vI ((idx a1 x270).txn)] rfl rfl rfl rfl (by kernel_rfl) (by kernel_rfl) (by kernel_rfl) (by kernel_rfl) hI ?_
        clear hI
        intro b341 _ hs342 hI
        replace H := must_some H
        obtain ⟨g343, H⟩ := H
        refine oe 4 rfl ?_
        refine e_append (tInt .i64) 32 0 3 _ _ _ _ A268 l267.length c269 l267 ([(idx a1 x270).txn] : List Int) b341 0 1 1 [vI ((idx a1 x270).txn)] 1 [] [0, 2, 3] [] [.blk b6 154 [.int .u64 y21], .blk b337 118 [vI ((idx a1 x270).txn), vS A333 (((idx a1 x270).args).length) c334], .blk b341 3 [vI ((idx a1 x270).txn)]] rfl (by kernel_rfl) (by kernel_rfl) rfl rfl rfl rfl rfl (by kernel_rfl) hI (by decide) rfl rfl rfl (hI.grp 3 rfl) g343 (mks_cons (mk_flat (k := (tInt .i64)) ((idx a1 x270).txn) [vI ((idx a1 x270).txn)] rfl) mks_nil) ?_
        clear hI
        intro A344 c345 _ hI
        replace hI := hI.pick (L' := [.row (tInt .i64) 3 A344 ((l267 ++ ([(idx a1 x270).txn] : List Int)).length) c345 (l267 ++ ([(idx a1 x270).txn] : List Int)), .blk b6 154 [.int .u64 y21], .blk b337 118 [vI ((idx a1 x270).txn), vS A333 (((idx a1 x270).args).length) c334]]) [0, 1, 2] (by decide) rfl
        refine bp 5 1 (ro (go_inBlock ?_))
        exact hJ315 (l267 ++ ([(idx a1 x270).txn] : List Int)) _ _ ⟨_, A344, c345, at_, hI.pick [1, 0] (by decide) rfl⟩ H
      · refine ge hc340 (go_skip (go_inBlock ?_))
        exact hJ315 l267 _ _ ⟨_, A268, c269, at_, hI.pick [0, 1] (by decide) rfl⟩ H
  · refine ge hc272 ?_
    refine go_exit rfl ?_
    refine go_seq (rp 2 ?_)
    replace H := out_some H
    obtain ⟨_, H, he1⟩ := H
    have he := (hout1 _ he1).symm
    subst he
    replace H := Option.some.inj H
    subst H
    exact gr Try.func62 ⟨A268, c269, rfl, hI.pick [1] (by decide) rfl⟩
theorem enter35 (a : Array Value) : Sem.pureRun Try.prog (callFunc 35 a) = some (.enter 35 a) := by kernel_rfl
theorem source_sources_calls (a0 : History) (A0z0 : Option Addr) (c0z0 : Nat) (A0z1 : Option Addr) (c0z1 : Nat) (a1 : Ask) (A1z0 : Option Addr) (c1z0 : Nat) (M : Mem) (w : World) (hI : Inv M w []) (hr0z0 : rdS tStr M.blk A0z0 a0.Keys) (hl0z0 : a0.Keys.length ≤ c0z0) (hr0z1 : rdS kTxn M.blk A0z1 a0.Txns) (hl0z1 : a0.Txns.length ≤ c0z1) (hr1z0 : rdS (tInt .i64) M.blk A1z0 a1.Base) (hl1z0 : a1.Base.length ≤ c1z0) (r : List Int) (H : source_sources a0 a1 = some r) :
    Calls Try.prog 35 #[.agg #[vS A0z0 a0.Keys.length c0z0, vS A0z1 a0.Txns.length c0z1], .agg #[vI a1.Txn, vI a1.Place, vI a1.Key, vS A1z0 a1.Base.length c1z0]] w fun e w' => ∃ (A718 : Option Addr), ∃ (c719 : Nat), e = .returned (vS A718 r.length c719) ∧ Inv M w' [orA noM (tInt .i64) 3 A718 r.length c719 r] := by
  refine cg Try.func35 ?_
  intro cs
  unfold source_sources at H
  refine go_seq (r_in (oe 0 rfl ?_))
  refine e_box 25 _ (.agg #[vS A0z0 a0.Keys.length c0z0, vS A0z1 a0.Txns.length c0z1]) [vS A0z0 a0.Keys.length c0z0, vS A0z1 a0.Txns.length c0z1] rfl (by kernel_rfl) rfl hI ?_
  clear hI
  intro b3 _ hI
  refine oe 1 rfl ?_
  refine e_box 37 _ (.agg #[vI a1.Txn, vI a1.Place, vI a1.Key, vS A1z0 a1.Base.length c1z0]) [vI a1.Txn, vI a1.Place, vI a1.Key, vS A1z0 a1.Base.length c1z0] rfl (by kernel_rfl) rfl hI ?_
  clear hI
  intro b4 _ hI
  refine bp 2 1 (ro (go_seq (rp 1 (go_seq (go_seq (r_in (bg 0 [.l 0 0, .p, .l 1 2] (gB (hI.grp 0 rfl) (hI.grp 1 rfl)) ?_)))))))
  replace H := bind_some H
  obtain ⟨y177, hy178, H⟩ := H
  refine oe 3 rfl ?_
  refine ec (enter21 _) (index_Type_calls a0 A0z0 c0z0 A0z1 c0z1 a1.Key (memOf _) _ (Inv.start _) (hI.rd hr0z0) hl0z0 (hI.rd hr0z1) hl0z1 _ hy178) ?_
  rintro _ _ ⟨rfl, hI'⟩
  replace hI := hI.call0 hI'
  clear hI'
  refine ⟨_, rfl, ?_⟩
  refine bp 4 1 (ro ?_)
  refine go_block_join (o := r) (fun l344 f w => ∃ (j : Nat → Value) (A345 : Option Addr) (c346 : Nat), f = updL j [(5, vS A345 l344.length c346)] ∧ Inv M w [orA noM (tInt .i64) 3 A345 l344.length c346 l344]) (fun l344 => source_sources.j1 l344) ?_ (fun hJ347 => ?_)
  · clear H hI
    rintro l344 _ _ ⟨_, A345, c346, rfl, hI⟩ H
    refine go_seq (rp 2 ?_)
    replace H := Option.some.inj H
    subst H
    exact gr Try.func35 ⟨A345, c346, rfl, hI⟩
  · refine go_seq (rp 3 ?_)
    replace H := cond_some H
    rcases H with ⟨hc348, H⟩ | ⟨hc348, H⟩
    · refine gt hc348 ?_
      refine go_seq_join (o := r) (fun l358 f w => ∃ (j : Nat → Value) (A359 : Option Addr) (c360 : Nat), f = updL j [(2, vP b3 0), (3, vP b4 0), (5, vS A359 l358.length c360)] ∧ Inv M w [.blk b3 25 [vS A0z0 a0.Keys.length c0z0, vS A0z1 a0.Txns.length c0z1], .blk b4 37 [vI a1.Txn, vI a1.Place, vI a1.Key, vS A1z0 a1.Base.length c1z0], .row (tInt .i64) 3 A359 l358.length c360 l358]) (fun l358 => source_sources.j2 a0 a1 l358) ?_ (fun hJ361 => ?_)
      · clear H hI
        rintro l358 _ _ ⟨_, A359, c360, rfl, hI⟩ H
        replace H := must_some H
        obtain ⟨g362, H⟩ := H
        obtain ⟨b363, q364, rfl, _⟩ := rdS.fopen hr1z0 rfl g362
        replace H := bind_some H
        obtain ⟨y365, hy366, H⟩ := H
        replace H := bind_some H
        obtain ⟨y369, hy370, H⟩ := H
        replace H := must_some H
        obtain ⟨g373, H⟩ := H
        refine go_held (fun w => Inv M w [.blk b3 25 [vS A0z0 a0.Keys.length c0z0, vS A0z1 a0.Txns.length c0z1], .blk b4 37 [vI a1.Txn, vI a1.Place, vI a1.Key, vS (some ⟨b363, q364, none⟩) a1.Base.length c1z0]]) (by kernel_rfl) ?_
        replace hI := hI.drew'
        refine hx (n := 4) [(0, .p), (1, .p), (2, .l 0 3), (3, .x), (4, .l 1 0), (5, .l 2 0), (6, .l 0 0)] (fun _ hS => (gC (hS.grp 1 rfl) (hS.lies (rdS.flook hr1z0 rfl g362)) (hS.grp 0 rfl))) (hI.pk [0, 1]) _ (bZ g362) ?_
        refine ho (n := 3) 7 rfl (ec (enter63 _) (source_finals_calls a0 A0z0 c0z0 A0z1 c0z1 a1 (some ⟨b363, q364, none⟩) c1z0 (memOf _) _ (Inv.start _) (hI.rd hr0z0) hl0z0 (hI.rd hr0z1) hl0z1 (hI.rd hr1z0) hl1z0 _ hy366) ?_)
        rintro _ _ ⟨A367, c368, rfl, hI'⟩
        replace hI := hI.call0 hI'
        clear hI'
        refine ⟨_, rfl, ?_⟩
        refine ⟨(hI.pk [0, 1]), ?_⟩
        refine ho (n := 2) 8 rfl (ec (enter62 _) (source_counter_calls (idx a1.Base (0 : Int)) A367 c368 y365 (memOf _) _ (Inv.start _) (hI.row 3 rfl) (hI.rowle 3 rfl) _ hy370) ?_)
        rintro _ _ ⟨A371, c372, rfl, hI'⟩
        replace hI := hI.call0 hI'
        clear hI'
        refine ⟨_, rfl, ?_⟩
        refine ⟨(hI.pk [0, 1]), ?_⟩
        refine ho (n := 1) 9 rfl (e_append_rd (kt := (tInt .i64)) 32 0 3 _ _ _ _ A359 A371 l358.length c360 l358 y369 c372 2 [0, 1, 3, 4] [.blk b3 25 [vS A0z0 a0.Keys.length c0z0, vS A0z1 a0.Txns.length c0z1], .blk b4 37 [vI a1.Txn, vI a1.Place, vI a1.Key, vS (some ⟨b363, q364, none⟩) a1.Base.length c1z0], .row kSourceFinal 118 A367 y365.length c368 y365, .row (tInt .i64) 3 A371 y369.length c372 y369] rfl (by kernel_rfl) (by kernel_rfl) rfl rfl rfl rfl rfl (by kernel_rfl) hI (by decide) rfl (hI.row 4 rfl) g373 ?_)
        clear hI
        intro A374 c375 _ hI
        refine ⟨(hI.pk [1, 2]), ?_⟩
        refine hg (n := 0) [(10, .p)] (fun _ hS => gO) (hI.pk [1, 2]) (hd (go_inBlock ?_))
        exact hJ347 (l358 ++ y369) _ _ ⟨_, A374, c375, at_, (Inv.toOr hI 0 noM rfl).pick [0] (by decide) rfl⟩ H
      · refine go_seq (r_in ?_)
        replace H := must_some H
        obtain ⟨g379, H⟩ := H
        obtain ⟨b380, q381, rfl, _⟩ := rdS.fopen hr1z0 rfl g379
        refine bx 0 [.p, .l 0 3, .x, .l 1 0, .p] (gB (hI.grp 1 rfl) (hI.lies (rdS.flook hr1z0 rfl g379))) _ (bZ g379) (ro ?_)
        replace H := cond_some H
        rcases H with ⟨hc382, H⟩ | ⟨hc382, H⟩
        · refine gt hc382 (r_in (bp 0 1 (oe 1 rfl ?_)))
          refine e_partsS 32 3 1 _ _ _ #[vI (-1)] [vI (-1)] rfl rfl rfl rfl (by kernel_rfl) (by kernel_rfl) (by kernel_rfl) (by kernel_rfl) hI ?_
          clear hI
          intro b383 _ hs384 hI
          replace H := must_some H
          obtain ⟨g385, H⟩ := H
          replace hI := hI.nilrow (tInt .i64) 3
          refine oe 2 rfl ?_
          refine e_append (tInt .i64) 32 0 3 _ _ _ _ none 0 0 ([] : List Int) ([(-1)] : List Int) b383 0 1 1 [vI (-1)] 3 [] [0, 1, 2] [] [.blk b3 25 [vS A0z0 a0.Keys.length c0z0, vS A0z1 a0.Txns.length c0z1], .blk b4 37 [vI a1.Txn, vI a1.Place, vI a1.Key, vS (some ⟨b380, q381, none⟩) a1.Base.length c1z0], .blk b383 3 [vI (-1)]] rfl (by kernel_rfl) (by kernel_rfl) rfl rfl rfl rfl rfl (by kernel_rfl) hI (by decide) rfl rfl rfl (hI.grp 2 rfl) g385 (mks_cons (mk_flat (k := (tInt .i64)) (-1) [vI (-1)] rfl) mks_nil) ?_
          clear hI
          intro A386 c387 _ hI
          replace hI := hI.pick (L' := [.row (tInt .i64) 3 A386 ((([] : List Int) ++ ([(-1)] : List Int)).length) c387 (([] : List Int) ++ ([(-1)] : List Int)), .blk b3 25 [vS A0z0 a0.Keys.length c0z0, vS A0z1 a0.Txns.length c0z1], .blk b4 37 [vI a1.Txn, vI a1.Place, vI a1.Key, vS (some ⟨b380, q381, none⟩) a1.Base.length c1z0]]) [0, 1, 2] (by decide) rfl
          refine bp 3 1 (ro ?_)
          exact hJ361 (([] : List Int) ++ ([(-1)] : List Int)) _ _ ⟨_, A386, c387, at_, hI.pick [1, 2, 0] (by decide) rfl⟩ H
        · refine ge hc382 (go_skip ?_)
          exact hJ361 [] _ _ ⟨_, none, 0, at_, (hI.nilrow (tInt .i64) 3)⟩ H
    · refine ge hc348 (go_seq (rg [.p, .l 0 3, .p, .p, .p] (gA (hI.grp 1 rfl)) ?_))
      replace H := cond_some H
      rcases H with ⟨hc388, H⟩ | ⟨hc388, H⟩
      · refine gt hc388 (r_in (oe 0 rfl ?_))
        refine e_partsS 32 3 1 _ _ _ #[vI (-1)] [vI (-1)] rfl rfl rfl rfl (by kernel_rfl) (by kernel_rfl) (by kernel_rfl) (by kernel_rfl) hI ?_
        clear hI
        intro b389 _ hs390 hI
        replace hI := hI.asrow (k := (tInt .i64)) (xs := ([(-1)] : List Int)) (cs := [vI (-1)]) (R := []) (L' := [.blk b3 25 [vS A0z0 a0.Keys.length c0z0, vS A0z1 a0.Txns.length c0z1], .blk b4 37 [vI a1.Txn, vI a1.Place, vI a1.Key, vS A1z0 a1.Base.length c1z0]]) 1 2 [] [0, 1] (by decide) rfl (mks_cons (mk_flat (k := (tInt .i64)) (-1) [vI (-1)] rfl) mks_nil) rfl rfl (by kernel_rfl)
        refine bp 1 1 (ro (go_inBlock ?_))
        refine go_is 5 (vS (some ⟨b389, 0, none⟩) 1 1) (vS (some ⟨b389, 0, none⟩) (([(-1)] : List Int).length) 1) (by kernel_rfl) (by first | rfl | simp only [List.length_set, List.length_replicate, List.length_nil]) ?_
        replace hI := hI.renum 0 rfl
        exact hJ347 ([(-1)] : List Int) _ _ ⟨_, (some ⟨b389, 0, none⟩), 1, at_, (Inv.toOr hI 0 noM rfl).pick [0] (by decide) rfl⟩ H
      · refine ge hc388 (go_seq (rp 3 ?_))
        replace H := cond_some H
        rcases H with ⟨hc391, H⟩ | ⟨hc391, H⟩
        · refine gt hc391 (go_seq (r_in (bg 0 [.l 0 0, .l 1 0] (gB (hI.grp 0 rfl) (hI.grp 1 rfl)) ?_)))
          replace H := bind_some H
          obtain ⟨y406, hy407, H⟩ := H
          refine oe 2 rfl ?_
          refine ec (enter63 _) (source_finals_calls a0 A0z0 c0z0 A0z1 c0z1 a1 A1z0 c1z0 (memOf _) _ (Inv.start _) (hI.rd hr0z0) hl0z0 (hI.rd hr0z1) hl0z1 (hI.rd hr1z0) hl1z0 _ hy407) ?_
          rintro _ _ ⟨A408, c409, rfl, hI'⟩
          replace hI := hI.call0 hI'
          clear hI'
          refine ⟨_, rfl, ?_⟩
          refine bp 3 2 (ro ?_)
          obtain ⟨M410, F411, hs412, hb413, ho414, hI'⟩ := hI.lend 2 rfl
          clear hI
          have hI := hI'.pick (L' := [.blk b3 25 [vS A0z0 a0.Keys.length c0z0, vS A0z1 a0.Txns.length c0z1], .blk b4 37 [vI a1.Txn, vI a1.Place, vI a1.Key, vS A1z0 a1.Base.length c1z0]]) [0, 1] (by decide) rfl
          clear hI'
          have hr415 := rowOwn.rd ho414.1
          have hl416 := rowOwn.le ho414.1
          have hf417 := rdS.mono hr0z0 hs412
          have hf418 := rdS.mono hr0z1 hs412
          have hf419 := rdS.mono hr1z0 hs412
          refine go_block ?_
          refine go_iter (source_sources.s3 a1 y406) (fun (l599, x602) f w => ∃ (j : Nat → Value) (A600 : Option Addr) (c601 : Nat), f = updL j [(3, vP b4 0), (5, vS A600 l599.length c601), (53, vS A408 y406.length c409), (54, vI (y406.length : Int)), (55, vI x602)] ∧ Inv M410 w [.blk b4 37 [vI a1.Txn, vI a1.Place, vI a1.Key, vS A1z0 a1.Base.length c1z0], .row (tInt .i64) 3 A600 l599.length c601 l599]) H ⟨_, none, 0, at_, (hI.nilrow (tInt .i64) 3).pick [1, 2] (by decide) rfl⟩ ?_
          clear H hI
          rintro ⟨l599, x602⟩ _ _ o1 H ⟨_, A600, c601, rfl, hI⟩ hin1 hout1
          refine go_seq (rp 1 (go_seq ?_))
          replace H := cond_some H
          rcases H with ⟨hc604, H⟩ | ⟨hc604, H⟩
          · refine gt hc604 (go_skip (go_seq ?_))
            refine go_block_join (o := o1) (fun l654 f w => ∃ (j : Nat → Value) (A655 : Option Addr) (c656 : Nat), f = updL j [(3, vP b4 0), (5, vS A655 l654.length c656), (53, vS A408 y406.length c409), (54, vI (y406.length : Int)), (55, vI x602)] ∧ Inv M410 w [.blk b4 37 [vI a1.Txn, vI a1.Place, vI a1.Key, vS A1z0 a1.Base.length c1z0], .row (tInt .i64) 3 A655 l654.length c656 l654]) (fun l654 => source_sources.j4 x602 l654) ?_ (fun hJ657 => ?_)
            · clear H hI
              rintro l654 _ _ ⟨_, A655, c656, rfl, hI⟩ H
              refine rp 2 ?_
              exact hin1 _ (Option.some.inj H).symm _ _ ⟨_, A655, c656, at_, hI⟩
            · refine go_seq (r_in ?_)
              replace H := must_some H
              obtain ⟨g669, H⟩ := H
              obtain ⟨b673, q674, rfl, cs672, hk671, hg670⟩ := rdS.open hr415 rfl g669
              obtain ⟨_, _, rfl, rfl, ⟨A675, c676, rfl, hl678, hr677⟩⟩ := hk671
              refine bx 0 [.x, .l 0 0] (gA (hI.lies hg670)) _ (bZ g669) (oe 2 rfl ?_)
              refine e_alloc 118 (.agg #[vI 0, vS none 0 0]) [vI 0, vS none 0 0] rfl (by kernel_rfl) rfl hI ?_
              clear hI
              intro b679 _ hI
              refine oe 3 rfl ?_
              refine e_store 118 _ _ 2 b679 118 [vI 0, vS none 0 0] [vI ((idx y406 x602).txn), vS A675 (((idx y406 x602).args).length) c676] 0 (.agg #[vI ((idx y406 x602).txn), vS A675 (((idx y406 x602).args).length) c676]) rfl (by kernel_rfl) (by kernel_rfl) (by kernel_rfl) (by kernel_rfl) hI rfl (by kernel_rfl) (by kernel_rfl) ?_
              clear hI
              intro _ hI
              refine ro (go_seq ?_)
              replace H := must_some H
              obtain ⟨g686, H⟩ := H
              obtain ⟨b687, q688, rfl, _⟩ := rdS.fopen hr677 rfl g686
              replace H := must_some H
              obtain ⟨g689, H⟩ := H
              obtain ⟨b690, q691, rfl, _⟩ := rdS.fopen hf419 rfl g689
              refine dx [.p, .l 0 1, .p, .l 0 1, .p, .p, .x, .l 1 0, .p, .l 2 3, .x, .l 3 0, .p] (gD (hI.grp 2 rfl) (hI.lies (rdS.flook hr677 rfl g686)) (hI.grp 0 rfl) (hI.lies (rdS.flook hf419 rfl g689))) _ (bC g686 (bZ g689)) hI ?_
              clear hI
              intro _ hI
              replace H := cond_some H
              rcases H with ⟨hc692, H⟩ | ⟨hc692, H⟩
              · refine gt hc692 (r_in (bg 0 [.p, .p, .l 0 0] (gA (hI.grp 2 rfl)) (oe 3 rfl ?_)))
                refine e_partsS 32 3 1 _ _ _ #[vI ((idx y406 x602).txn)] [vI ((idx y406 x602).txn)] rfl rfl rfl rfl (by kernel_rfl) (by kernel_rfl) (by kernel_rfl) (by kernel_rfl) hI ?_
                clear hI
                intro b693 _ hs694 hI
                replace H := must_some H
                obtain ⟨g695, H⟩ := H
                refine oe 4 rfl ?_
                refine e_append (tInt .i64) 32 0 3 _ _ _ _ A600 l599.length c601 l599 ([(idx y406 x602).txn] : List Int) b693 0 1 1 [vI ((idx y406 x602).txn)] 1 [] [0, 2, 3] [] [.blk b4 37 [vI a1.Txn, vI a1.Place, vI a1.Key, vS (some ⟨b690, q691, none⟩) a1.Base.length c1z0], .blk b679 118 [vI ((idx y406 x602).txn), vS (some ⟨b687, q688, none⟩) (((idx y406 x602).args).length) c676], .blk b693 3 [vI ((idx y406 x602).txn)]] rfl (by kernel_rfl) (by kernel_rfl) rfl rfl rfl rfl rfl (by kernel_rfl) hI (by decide) rfl rfl rfl (hI.grp 3 rfl) g695 (mks_cons (mk_flat (k := (tInt .i64)) ((idx y406 x602).txn) [vI ((idx y406 x602).txn)] rfl) mks_nil) ?_
                clear hI
                intro A696 c697 _ hI
                replace hI := hI.pick (L' := [.row (tInt .i64) 3 A696 ((l599 ++ ([(idx y406 x602).txn] : List Int)).length) c697 (l599 ++ ([(idx y406 x602).txn] : List Int)), .blk b4 37 [vI a1.Txn, vI a1.Place, vI a1.Key, vS (some ⟨b690, q691, none⟩) a1.Base.length c1z0], .blk b679 118 [vI ((idx y406 x602).txn), vS (some ⟨b687, q688, none⟩) (((idx y406 x602).args).length) c676]]) [0, 1, 2] (by decide) rfl
                refine bp 5 1 (ro (go_inBlock ?_))
                exact hJ657 (l599 ++ ([(idx y406 x602).txn] : List Int)) _ _ ⟨_, A696, c697, at_, hI.pick [1, 0] (by decide) rfl⟩ H
              · refine ge hc692 (go_skip (go_inBlock ?_))
                exact hJ657 l599 _ _ ⟨_, A600, c601, at_, hI.pick [0, 1] (by decide) rfl⟩ H
          · refine ge hc604 ?_
            refine go_exit rfl ?_
            refine go_inBlock ?_
            replace H := out_some H
            obtain ⟨_, H, he1⟩ := H
            have he := (hout1 _ he1).symm
            subst he
            exact hJ347 l599 _ _ ⟨_, A600, c601, at_, (Inv.toOr (Inv.tail (hb413 _ _ hI)) 1 noM rfl).pick [1] (by decide) rfl⟩ H
        · refine ge hc391 (go_seq (rp 3 ?_))
          replace H := cond_some H
          rcases H with ⟨hc698, H⟩ | ⟨hc698, H⟩
          · refine gt hc698 (go_seq (r_in (bg 0 [.l 0 0, .l 1 0] (gB (hI.grp 0 rfl) (hI.grp 1 rfl)) ?_)))
            replace H := bind_some H
            obtain ⟨y703, hy704, H⟩ := H
            refine oe 2 rfl ?_
            refine ec (enter46 _) (source_parts_calls a0 A0z0 c0z0 A0z1 c0z1 a1 A1z0 c1z0 (memOf _) _ (Inv.start _) (hI.rd hr0z0) hl0z0 (hI.rd hr0z1) hl0z1 (hI.rd hr1z0) hl1z0 _ hy704) ?_
            rintro _ _ ⟨A705, c706, rfl, hI'⟩
            replace hI := hI.call0 hI'
            clear hI'
            refine ⟨_, rfl, ?_⟩
            refine bp 3 5 (ro (go_seq (rp 1 ?_)))
            replace H := cond_some H
            rcases H with ⟨hc707, H⟩ | ⟨hc707, H⟩
            · refine gt hc707 (r_in (bp 0 4 ?_))
              replace H := must_some H
              obtain ⟨g708, H⟩ := H
              refine oe 4 rfl ?_
              refine e_slice_view (tInt .i64) 32 3 _ _ _ _ A705 c706 y703.1 .i64 .i64 (w64 ((y703.1.length : Int) - 1)) (y703.1.length : Int) rfl (by kernel_rfl) (by kernel_rfl) (by kernel_rfl) rfl rfl rfl (hI.rowle 2 rfl) g708 ?_
              intro A709 c710 hr711 hl712
              replace hI := Inv.orsub (hI.toOr 2 noM rfl) 2 rfl hr711 hl712
              refine bp 5 1 (ro (go_inBlock ?_))
              exact hJ347 (subl y703.1 (w64 ((y703.1.length : Int) - 1)) (y703.1.length : Int)) _ _ ⟨_, A709, c710, at_, hI.pick [2] (by decide) rfl⟩ H
            · refine ge hc707 (go_skip (go_inBlock ?_))
              exact hJ347 [] _ _ ⟨_, none, 0, at_, (hI.addOr (k := (tInt .i64)) (N := noM) 3 (.inl rfl) (Nat.le_refl _) rfl).pick [3] (by decide) rfl⟩ H
          · refine ge hc698 (r_in (bg 0 [.l 0 0, .l 1 0] (gB (hI.grp 0 rfl) (hI.grp 1 rfl)) ?_))
            replace H := bind_some H
            obtain ⟨y713, hy714, H⟩ := H
            refine oe 2 rfl ?_
            refine ec (enter46 _) (source_parts_calls a0 A0z0 c0z0 A0z1 c0z1 a1 A1z0 c1z0 (memOf _) _ (Inv.start _) (hI.rd hr0z0) hl0z0 (hI.rd hr0z1) hl0z1 (hI.rd hr1z0) hl1z0 _ hy714) ?_
            rintro _ _ ⟨A715, c716, rfl, hI'⟩
            replace hI := hI.call0 hI'
            clear hI'
            refine ⟨_, rfl, ?_⟩
            refine bp 3 4 (ro (go_inBlock ?_))
            exact hJ347 y713.1 _ _ ⟨_, A715, c716, at_, (Inv.toOr hI 2 noM rfl).pick [2] (by decide) rfl⟩ H
theorem enter34 (a : Array Value) : Sem.pureRun Try.prog (callFunc 34 a) = some (.enter 34 a) := by kernel_rfl
theorem source_Empty_1zcalls (a0 : Ask) (A0z0 : Option Addr) (c0z0 : Nat) (b1z : Nat) (a1 : History) (A1z0 : Option Addr) (c1z0 : Nat) (A1z1 : Option Addr) (c1z1 : Nat) (M : Mem) (w : World) (hI : Inv M w []) (hr0z0 : rdS (tInt .i64) M.blk A0z0 a0.Base) (hl0z0 : a0.Base.length ≤ c0z0) (hb1z : Lies M.blk (b1z, 0, [vS A1z0 a1.Keys.length c1z0, vS A1z1 a1.Txns.length c1z1])) (hr1z0 : rdS tStr M.blk A1z0 a1.Keys) (hl1z0 : a1.Keys.length ≤ c1z0) (hr1z1 : rdS kTxn M.blk A1z1 a1.Txns) (hl1z1 : a1.Txns.length ≤ c1z1) (r : Bool) (H : source_Empty_1 a0 a1 = some r) :
    Calls Try.prog 34 #[.agg #[vI a0.Txn, vI a0.Place, vI a0.Key, vS A0z0 a0.Base.length c0z0], vP b1z 0] w fun e w' => e = .returned (vB r) ∧ Inv M w' [] := by
  refine cg Try.func34 ?_
  intro cs
  unfold source_Empty_1 at H
  refine go_seq (r_in (oe 0 rfl ?_))
  refine e_box 37 _ (.agg #[vI a0.Txn, vI a0.Place, vI a0.Key, vS A0z0 a0.Base.length c0z0]) [vI a0.Txn, vI a0.Place, vI a0.Key, vS A0z0 a0.Base.length c0z0] rfl (by kernel_rfl) rfl hI ?_
  clear hI
  intro b2 _ hI
  refine bp 1 1 (ro (go_seq (r_in (bg 0 [.l 0 0, .l 1 0] (gB (hI.lies hb1z) (hI.grp 0 rfl)) ?_))))
  replace H := bind_some H
  obtain ⟨y7, hy8, H⟩ := H
  refine oe 2 rfl ?_
  refine ec (enter35 _) (source_sources_calls a1 A1z0 c1z0 A1z1 c1z1 a0 A0z0 c0z0 (memOf _) _ (Inv.start _) (hI.rd hr1z0) hl1z0 (hI.rd hr1z1) hl1z1 (hI.rd hr0z0) hl0z0 _ hy8) ?_
  rintro _ _ ⟨A9, c10, rfl, hI'⟩
  replace hI := hI.call0 hI'
  clear hI'
  refine ⟨_, rfl, ?_⟩
  refine bp 3 3 (ro ?_)
  replace H := Option.some.inj H
  subst H
  exact gr Try.func34 ⟨rfl, hI.pn⟩
theorem enter61 (a : Array Value) : Sem.pureRun Try.prog (callFunc 61 a) = some (.enter 61 a) := by kernel_rfl
theorem slices_IndexFunc_Ask_source_Empty_1zcalls (A0z : Option Addr) (c0z : Nat) (a0 : List Ask) (b1c0z : Nat) (a1c0 : History) (A1c0z0 : Option Addr) (c1c0z0 : Nat) (A1c0z1 : Option Addr) (c1c0z1 : Nat) (M : Mem) (w : World) (hI : Inv M w []) (hr0z : rdS kAsk M.blk A0z a0) (hl0z : a0.length ≤ c0z) (hb1c0z : Lies M.blk (b1c0z, 0, [vS A1c0z0 a1c0.Keys.length c1c0z0, vS A1c0z1 a1c0.Txns.length c1c0z1])) (hr1c0z0 : rdS tStr M.blk A1c0z0 a1c0.Keys) (hl1c0z0 : a1c0.Keys.length ≤ c1c0z0) (hr1c0z1 : rdS kTxn M.blk A1c0z1 a1c0.Txns) (hl1c0z1 : a1c0.Txns.length ≤ c1c0z1) (r : Int) (H : slices_IndexFunc_Ask_source_Empty_1 a0 a1c0 = some r) :
    Calls Try.prog 61 #[vS A0z a0.length c0z, .func (.func 34) #[] #[vP b1c0z 0]] w fun e w' => e = .returned (vI r) ∧ Inv M w' [] := by
  refine cg Try.func61 ?_
  intro cs
  unfold slices_IndexFunc_Ask_source_Empty_1 at H
  refine go_seq (rp 1 (go_seq (go_seq (rp 3 (go_block ?_)))))
  refine go_iter (slices_IndexFunc_Ask_source_Empty_1.s1 a0 a1c0) (fun x130 f w => ∃ (j : Nat → Value), f = updL j [(0, vS A0z a0.length c0z), (1, .func (.func 34) #[] #[vP b1c0z 0]), (7, vI (a0.length : Int)), (8, vI x130)] ∧ Inv M w []) H ⟨_, at_, hI⟩ ?_
  clear H hI
  rintro x130 _ _ o1 H ⟨_, rfl, hI⟩ hin1 hout1
  refine go_seq (rp 1 (go_seq ?_))
  replace H := cond_some H
  rcases H with ⟨hc132, H⟩ | ⟨hc132, H⟩
  · refine gt hc132 (go_skip (go_seq (go_block (go_seq (rp 2 (go_seq (r_in ?_)))))))
    replace H := must_some H
    obtain ⟨g171, H⟩ := H
    obtain ⟨b175, q176, rfl, cs174, hk173, hg172⟩ := rdS.open hr0z rfl g171
    obtain ⟨_, _, rfl, rfl, ⟨_, _, rfl, rfl, ⟨_, _, rfl, rfl, ⟨A177, c178, rfl, hl180, hr179⟩⟩⟩⟩ := hk173
    refine bx 0 [.p, .p, .p, .x, .l 0 0] (gA (hI.lies hg172)) _ (bZ g171) ?_
    replace H := bind_some H
    obtain ⟨y181, hy182, H⟩ := H
    refine oe 5 rfl ?_
    refine e_callf _ _ _ 34 #[] #[vP b1c0z 0] #[.agg #[vI ((idx a0 x130).Txn), vI ((idx a0 x130).Place), vI ((idx a0 x130).Key), vS A177 (((idx a0 x130).Base).length) c178]] #[.agg #[vI ((idx a0 x130).Txn), vI ((idx a0 x130).Place), vI ((idx a0 x130).Key), vS A177 (((idx a0 x130).Base).length) c178], vP b1c0z 0] rfl (by kernel_rfl) (by kernel_rfl) (by kernel_rfl) (enter34 _) (source_Empty_1zcalls (idx a0 x130) A177 c178 b1c0z a1c0 A1c0z0 c1c0z0 A1c0z1 c1c0z1 (memOf _) _ (Inv.start _) (hI.rd hr179) hl180 (Lies.mono hb1c0z hI.fix) (hI.rd hr1c0z0) hl1c0z0 (hI.rd hr1c0z1) hl1c0z1 _ hy182) ?_
    rintro _ _ ⟨rfl, hI'⟩
    replace hI := hI.call0 hI'
    clear hI'
    refine ⟨_, rfl, ?_⟩
    refine ro ?_
    replace H := cond_some H
    rcases H with ⟨hc183, H⟩ | ⟨hc183, H⟩
    · refine gt hc183 (go_seq (rp 2 ?_))
      replace H := out_some H
      obtain ⟨_, H, he1⟩ := H
      have he := (hout1 _ he1).symm
      subst he
      replace H := Option.some.inj H
      subst H
      exact gr Try.func61 ⟨rfl, hI⟩
    · refine ge hc183 (go_skip (go_inBlock (rp 2 ?_)))
      exact hin1 _ (Option.some.inj H).symm _ _ ⟨_, at_, hI⟩
  · refine ge hc132 ?_
    refine go_exit rfl ?_
    refine go_seq (rp 1 ?_)
    replace H := out_some H
    obtain ⟨_, H, he1⟩ := H
    have he := (hout1 _ he1).symm
    subst he
    replace H := Option.some.inj H
    subst H
    exact gr Try.func61 ⟨rfl, hI⟩
theorem enter33 (a : Array Value) : Sem.pureRun Try.prog (callFunc 33 a) = some (.enter 33 a) := by kernel_rfl
theorem slices_DeleteFunc_Ask_source_Empty_1zcalls (A0z : Option Addr) (c0z : Nat) (a0 : List Ask) (b1c0z : Nat) (a1c0 : History) (A1c0z0 : Option Addr) (c1c0z0 : Nat) (A1c0z1 : Option Addr) (c1c0z1 : Nat) (M : Mem) (w : World) (hI : Inv M w [.row kAsk 37 A0z a0.length c0z a0]) (hb1c0z : Lies M.blk (b1c0z, 0, [.slice A1c0z0 a1c0.Keys.length c1c0z0, .slice A1c0z1 a1c0.Txns.length c1c0z1])) (hr1c0z0 : rdS tStr M.blk A1c0z0 a1c0.Keys) (hl1c0z0 : a1c0.Keys.length ≤ c1c0z0) (hr1c0z1 : rdS kTxn M.blk A1c0z1 a1c0.Txns) (hl1c0z1 : a1c0.Txns.length ≤ c1c0z1) (r : List Ask) (H : slices_DeleteFunc_Ask_source_Empty_1 a0 a1c0 = some r) :
    Calls Try.prog 33 #[.slice A0z a0.length c0z, .func (.func 34) #[] #[.pointer (some ⟨b1c0z, 0, none⟩)]] w fun e w' => ∃ (A : Option Addr) (c : Nat), e = .returned (.slice A r.length c) ∧ Inv M w' [.row kAsk 37 A r.length c r] := by
  refine calls_go (updL (fun _ => undef) [(0, .slice A0z a0.length c0z), (1, .func (.func 34) #[] #[.pointer (some ⟨b1c0z, 0, none⟩)])]) Try.func33 rfl (by kernel_rfl) ?_
  intro cs
  unfold slices_DeleteFunc_Ask_source_Empty_1 at H
  repeat refine go_seq ?_
  refine r_in ?_
  refine o_batch 0 [] [.p] [(4, .slice none 0 0)] [] trivial trivial (by kernel_rfl) (by kernel_rfl) (by kernel_rfl) ?_
  refine r_out (by kernel_rfl) ?_
  repeat refine go_seq ?_
  refine r_in ?_
  refine o_batch 0 [] [.p, .p] [(8, .slice A0z a0.length c0z), (9, .func (.func 34) #[] #[.pointer (some ⟨b1c0z, 0, none⟩)])] [] trivial trivial (by kernel_rfl) (by kernel_rfl) (by kernel_rfl) ?_
  replace H := bind_some H
  obtain ⟨y1, hy1, H⟩ := H
  refine o_eff 2 _ rfl (by kernel_rfl) ?_
  refine e_callf _ _ _ 61 #[] #[] #[.slice A0z a0.length c0z, .func (.func 34) #[] #[.pointer (some ⟨b1c0z, 0, none⟩)]] #[.slice A0z a0.length c0z, .func (.func 34) #[] #[.pointer (some ⟨b1c0z, 0, none⟩)]] rfl (by kernel_rfl) (by kernel_rfl) (by kernel_rfl) (enter61 _) (slices_IndexFunc_Ask_source_Empty_1zcalls A0z c0z a0 b1c0z a1c0 A1c0z0 c1c0z0 A1c0z1 c1c0z1 (memOf _) _ (Inv.start _) (hI.row 0 rfl) (hI.rowle 0 rfl) (Lies.mono hb1c0z hI.fix) (rdS.mono hr1c0z0 hI.fix) hl1c0z0 (rdS.mono hr1c0z1 hI.fix) hl1c0z1 _ hy1) ?_
  rintro _ _ ⟨rfl, hI'⟩
  replace hI := hI.call0 hI'
  clear hI'
  refine ⟨_, rfl, ?_⟩
  refine o_batch 3 [] [.p] [(5, .int .i64 y1)] [] trivial trivial (by kernel_rfl) (by kernel_rfl) (by kernel_rfl) ?_
  refine r_out (by kernel_rfl) ?_
  repeat refine go_seq ?_
  refine r_in ?_
  refine o_batch 0 [] [.p, .p] [(11, .int .i64 y1), (12, .bool (y1 == -1))] [] trivial trivial (by kernel_rfl) (by kernel_rfl) (by kernel_rfl) ?_
  refine r_out (by kernel_rfl) ?_
  repeat refine go_seq ?_
  replace H := cond_some H
  rcases H with ⟨hc, H⟩ | ⟨hc, H⟩
  · refine go_then' (t := (y1 == -1)) (by kernel_rfl) hc ?_
    repeat refine go_seq ?_
    refine r_in ?_
    refine o_batch 0 [] [.p, .p] [(13, .slice A0z a0.length c0z), (4, .slice A0z a0.length c0z)] [] trivial trivial (by kernel_rfl) (by kernel_rfl) (by kernel_rfl) ?_
    refine r_out (by kernel_rfl) ?_
    replace H := Option.some.inj H
    subst H
    exact go_return (.slice A0z a0.length c0z) Try.func33 (by kernel_rfl) ⟨A0z, c0z, rfl, hI⟩
  refine go_else' (t := (y1 == -1)) (by kernel_rfl) hc ?_
  refine go_skip ?_
  replace H := must_some H
  obtain ⟨g, H⟩ := H
  have hmx : maxLen = 9223372036854775807 := rfl
  obtain ⟨b, rfl⟩ := hI.rowAt 0 rfl (j := y1) g
  obtain ⟨ds, hI2, hdl, _, hnc, hcm⟩ := hI.openseq 0 rfl
  replace hI := hI2
  clear hI2
  replace hdl : ds.length = c0z * 4 := hdl
  replace hI := hI.cutseq (xs := a0.take y1.toNat) (ys := a0.drop y1.toNat) 0 (List.take_append_drop _ _).symm rfl
  replace hI := hI.cutseq (xs := [idx a0 y1]) (ys := a0.drop (y1.toNat + 1)) 1 (drop_at a0 y1 g) rfl
  replace hI := hI.pick (L' := [_, _, _]) [1, 2, 3] (by decide) rfl
  have hw : w64 (y1 + 1) = y1 + 1 := w64zid (by omega) (by omega)
  have hln : (a0.take y1.toNat).length = y1.toNat := by rw [List.length_take]; omega
  have hx1 : (y1 + 1).toNat = y1.toNat + 1 := by omega
  rw [hw] at H
  repeat refine go_seq ?_
  refine r_in ?_
  refine o_batch 0 [] [.p, .p, .p] [(14, .int .i64 y1), (15, .int .i64 (w64 (y1 + 1))), (6, .int .i64 (w64 (y1 + 1)))] [] trivial trivial (by kernel_rfl) (by kernel_rfl) (by kernel_rfl) ?_
  refine r_out (by kernel_rfl) ?_
  refine go_is 5 (.int .i64 y1) (.int .i64 ((a0.take y1.toNat).length : Int)) (by kernel_rfl) (by rw [hln]; congr 1; omega) ?_
  refine go_is 6 (.int .i64 (w64 (y1 + 1))) (.int .i64 (y1 + 1)) (by kernel_rfl) (by rw [hw]) ?_
  repeat refine go_seq ?_
  refine go_block ?_
  refine go_iter (slices_DeleteFunc_Ask_source_Empty_1.s1 a0 a1c0) (fun (l, x) f w => ∃ (j : Nat → Value) (ds ck cr : List Value), f = updL j [(0, .slice (some ⟨b, 0, none⟩) a0.length c0z), (1, .func (.func 34) #[] #[.pointer (some ⟨b1c0z, 0, none⟩)]), (5, .int .i64 (l.length : Int)), (6, .int .i64 x)] ∧ ds.length = c0z * 4 ∧ ds.take (l.length * 4) = ck ∧ (∀ j u, cr[j]? = some u → ds[x.toNat * 4 + j]? = some u) ∧ l.length ≤ x.toNat ∧ 0 ≤ x ∧ x ≤ (a0.length : Int) ∧ Inv M w [seqA kAsk l ck, seqA kAsk (a0.drop x.toNat) cr, .blk b 37 ds]) H ⟨_, ds, _, _, at_slots _ (by kernel_rfl), hdl, ?_, ?_, by omega, by omega, by omega, by rw [hx1]; exact hI⟩ ?_
  · rw [List.take_take, Nat.min_eq_left]
    · rfl
    · have h4 : kAsk.sz = 4 := rfl
      rw [hln, h4]
      omega
  · intro j u hu
    rw [List.getElem?_drop, List.getElem?_drop] at hu
    have h4 : kAsk.sz = 4 := rfl
    rw [hln, h4] at hu
    have := take_get hu
    rw [hx1, ← this]
    congr 1
    simp
    omega
  clear H hI
  rintro ⟨l, x⟩ _ _ o1 H ⟨_, ds, ck, cr, rfl, hdl, hck, hcr, hlx, hx0, hxn, hI⟩ hin1 hout1
  repeat refine go_seq ?_
  refine r_in ?_
  refine o_batch 0 [] [.p, .p, .p, .p] [(16, .int .i64 x), (17, .slice (some ⟨b, 0, none⟩) a0.length c0z), (18, .int .i64 (a0.length : Int)), (19, .bool (decide (x < (a0.length : Int))))] [] trivial trivial (by kernel_rfl) (by kernel_rfl) (by kernel_rfl) ?_
  refine r_out (by kernel_rfl) ?_
  repeat refine go_seq ?_
  replace H := cond_some H
  rcases H with ⟨hc1, H⟩ | ⟨hc1, H⟩
  · refine go_then' (t := decide (x < (a0.length : Int))) (by kernel_rfl) hc1 ?_
    refine go_skip ?_
    repeat refine go_seq ?_
    refine go_block ?_
    repeat refine go_seq ?_
    refine r_in ?_
    replace H := must_some H
    obtain ⟨g1, H⟩ := H
    have hw1 : w64 (x + 1) = x + 1 := w64zid (by omega) (by omega)
    have hx2 : (x + 1).toNat = x.toNat + 1 := by omega
    replace hI := hI.cutseq (xs := [idx a0 x]) (ys := a0.drop (x.toNat + 1)) 1 (drop_at a0 x g1) rfl
    have hcv : ∀ j u, (cr.take ([idx a0 x].length * kAsk.sz))[j]? = some u → ds[x.toNat * 4 + j]? = some u := fun j u hu => hcr j u (take_get hu)
    have hcr2 : ∀ j u, (cr.drop ([idx a0 x].length * kAsk.sz))[j]? = some u → ds[(x.toNat + 1) * 4 + j]? = some u := by
      intro j u hu
      rw [List.getElem?_drop] at hu
      rw [← hcr _ u hu]
      congr 1
      have h4 : [idx a0 x].length * kAsk.sz = 4 := rfl
      rw [h4]
      omega
    generalize cr.take ([idx a0 x].length * kAsk.sz) = cv at hI hcv
    generalize cr.drop ([idx a0 x].length * kAsk.sz) = cr2 at hI hcr2
    obtain ⟨M1, hJ, hs, hro, hback⟩ := hI.call (R := [seqA kAsk l ck, seqA kAsk (a0.drop (x.toNat + 1)) cr2, .blk b 37 ds]) (L0 := [seqA kAsk [idx a0 x] cv]) [1, 2, 3] [0] (by decide) rfl
    obtain ⟨F1, hown⟩ := hro 0 _ rfl
    have hk := seq1zrd hown
    have hg := hJ.grpAt 2 rfl hcv
    obtain ⟨_, _, rfl, rfl, ⟨_, _, rfl, rfl, ⟨_, _, rfl, rfl, ⟨A177, c178, rfl, hl180, hr179⟩⟩⟩⟩ := hk
    refine o_batch 0 [(b, 0 + x.toNat * 4, [.int .i64 ((idx a0 x).Txn), .int .i64 ((idx a0 x).Place), .int .i64 ((idx a0 x).Key), .slice A177 (((idx a0 x).Base).length) c178])] [.p, .p, .x, .l 0 0] [(22, .slice (some ⟨b, 0, none⟩) a0.length c0z), (23, .int .i64 x), (24, .pointer (some ⟨b, 0 + x.toNat * 4, none⟩)), (25, .agg #[.int .i64 ((idx a0 x).Txn), .int .i64 ((idx a0 x).Place), .int .i64 ((idx a0 x).Key), .slice A177 (((idx a0 x).Base).length) c178])] [(x, a0.length)] ⟨hg, trivial⟩ ⟨g1, trivial⟩ (by kernel_rfl) (by kernel_rfl) (by kernel_rfl) ?_
    refine o_eff 4 _ rfl (by kernel_rfl) ?_
    refine e_alloc 37 (.agg #[.int .i64 0, .int .i64 0, .int .i64 0, .slice none 0 0]) [.int .i64 0, .int .i64 0, .int .i64 0, .slice none 0 0] rfl (by kernel_rfl) rfl hJ ?_
    clear hJ hg
    intro b2 _ hJ
    refine o_eff 5 _ rfl (by kernel_rfl) ?_
    refine e_store 37 _ _ 3 b2 37 [.int .i64 0, .int .i64 0, .int .i64 0, .slice none 0 0] [.int .i64 ((idx a0 x).Txn), .int .i64 ((idx a0 x).Place), .int .i64 ((idx a0 x).Key), .slice A177 (((idx a0 x).Base).length) c178] 0 (.agg #[.int .i64 ((idx a0 x).Txn), .int .i64 ((idx a0 x).Place), .int .i64 ((idx a0 x).Key), .slice A177 (((idx a0 x).Base).length) c178]) rfl (by kernel_rfl) (by kernel_rfl) (by kernel_rfl) (by kernel_rfl) hJ rfl (by kernel_rfl) (by kernel_rfl) ?_
    clear hJ
    intro _ hJ
    refine r_out (by kernel_rfl) ?_
    repeat refine go_seq ?_
    refine r_in ?_
    refine o_batch 0 [(b2, 0, [.int .i64 ((idx a0 x).Txn), .int .i64 ((idx a0 x).Place), .int .i64 ((idx a0 x).Key), .slice A177 (((idx a0 x).Base).length) c178])] [.p, .l 0 0] [(26, .func (.func 34) #[] #[.pointer (some ⟨b1c0z, 0, none⟩)]), (27, .agg #[.int .i64 ((idx a0 x).Txn), .int .i64 ((idx a0 x).Place), .int .i64 ((idx a0 x).Key), .slice A177 (((idx a0 x).Base).length) c178])] [] ⟨hJ.grp 3 rfl, trivial⟩ trivial (by kernel_rfl) (by kernel_rfl) (by kernel_rfl) ?_
    replace H := bind_some H
    obtain ⟨y, hy, H⟩ := H
    refine o_eff 2 _ rfl (by kernel_rfl) ?_
    refine e_callf _ _ _ 34 #[] #[.pointer (some ⟨b1c0z, 0, none⟩)] #[.agg #[.int .i64 ((idx a0 x).Txn), .int .i64 ((idx a0 x).Place), .int .i64 ((idx a0 x).Key), .slice A177 (((idx a0 x).Base).length) c178]] #[.agg #[.int .i64 ((idx a0 x).Txn), .int .i64 ((idx a0 x).Place), .int .i64 ((idx a0 x).Key), .slice A177 (((idx a0 x).Base).length) c178], .pointer (some ⟨b1c0z, 0, none⟩)] rfl (by kernel_rfl) (by kernel_rfl) (by kernel_rfl) (enter34 _) (source_Empty_1zcalls (idx a0 x) A177 c178 b1c0z a1c0 A1c0z0 c1c0z0 A1c0z1 c1c0z1 (memOf _) _ (Inv.start _) (hJ.rd hr179) hl180 (Lies.mono (Lies.mono hb1c0z hs) hJ.fix) (hJ.rd (rdS.mono hr1c0z0 hs)) hl1c0z0 (hJ.rd (rdS.mono hr1c0z1 hs)) hl1c0z1 _ hy) ?_
    rintro _ _ ⟨rfl, hI'⟩
    replace hJ := hJ.call0 hI'
    clear hI'
    refine ⟨_, rfl, ?_⟩
    refine o_batch 3 [] [.p] [(29, .bool (!y))] [] trivial trivial (by kernel_rfl) (by kernel_rfl) (by kernel_rfl) ?_
    refine r_out (by kernel_rfl) ?_
    repeat refine go_seq ?_
    rw [hw1] at H
    replace H := cond_some H
    rcases H with ⟨hc2, H⟩ | ⟨hc2, H⟩
    · refine go_then' (t := !y) (by kernel_rfl) hc2 ?_
      repeat refine go_seq ?_
      refine r_in ?_
      refine o_batch 0 [(b2, 0, [.int .i64 ((idx a0 x).Txn), .int .i64 ((idx a0 x).Place), .int .i64 ((idx a0 x).Key), .slice A177 (((idx a0 x).Base).length) c178])] [.p, .p, .l 0 0, .x] [(30, .slice (some ⟨b, 0, none⟩) a0.length c0z), (31, .int .i64 (l.length : Int)), (32, .agg #[.int .i64 ((idx a0 x).Txn), .int .i64 ((idx a0 x).Place), .int .i64 ((idx a0 x).Key), .slice A177 (((idx a0 x).Base).length) c178]), (33, .pointer (some ⟨b, 0 + (l.length : Int).toNat * 4, none⟩))] [((l.length : Int), a0.length)] ⟨hJ.grp 3 rfl, trivial⟩ ⟨⟨by omega, by omega⟩, trivial⟩ (by kernel_rfl) (by kernel_rfl) (by kernel_rfl) ?_
      refine o_eff 4 _ rfl (by kernel_rfl) ?_
      have hfit : l.length * 4 + 4 ≤ ds.length := by rw [hdl]; omega
      have e0 : 0 + (l.length : Int).toNat * 4 = l.length * 4 := by omega
      refine e_store 37 _ _ 2 b 37 ds (splice ds (l.length * 4) [.int .i64 ((idx a0 x).Txn), .int .i64 ((idx a0 x).Place), .int .i64 ((idx a0 x).Key), .slice A177 (((idx a0 x).Base).length) c178]) (0 + (l.length : Int).toNat * 4) (.agg #[.int .i64 ((idx a0 x).Txn), .int .i64 ((idx a0 x).Place), .int .i64 ((idx a0 x).Key), .slice A177 (((idx a0 x).Base).length) c178]) rfl (by kernel_rfl) (by kernel_rfl) (by kernel_rfl) (by kernel_rfl) hJ rfl (Nat.ble_eq_true_of_le (by rw [e0]; exact hfit)) (by rw [e0]; rfl) ?_
      clear hJ
      intro _ hJ
      replace hI := (hback _ _ hJ).pick (L' := [_, _, _, _]) [0, 4, 1, 2] (by decide) rfl
      replace hI := hI.joinseq
      refine r_out (by kernel_rfl) ?_
      repeat refine go_seq ?_
      refine r_in ?_
      refine o_batch 0 [] [.p, .p, .p] [(34, .int .i64 (l.length : Int)), (35, .int .i64 (w64 ((l.length : Int) + 1))), (5, .int .i64 (w64 ((l.length : Int) + 1)))] [] trivial trivial (by kernel_rfl) (by kernel_rfl) (by kernel_rfl) ?_
      refine r_out (by kernel_rfl) ?_
      refine go_inBlock ?_
      refine r_in ?_
      refine o_batch 0 [] [.p, .p, .p] [(20, .int .i64 x), (21, .int .i64 (w64 (x + 1))), (6, .int .i64 (w64 (x + 1)))] [] trivial trivial (by kernel_rfl) (by kernel_rfl) (by kernel_rfl) ?_
      refine r_out (by kernel_rfl) ?_
      have hwl : w64 ((l.length : Int) + 1) = (l.length : Int) + 1 := w64zid (by omega) (by omega)
      have hll : (l ++ [idx a0 x]).length = l.length + 1 := by simp
      refine go_is 5 (.int .i64 (w64 ((l.length : Int) + 1))) (.int .i64 ((l ++ [idx a0 x]).length : Int)) (by kernel_rfl) (by rw [hwl, hll]; rfl) ?_
      refine go_is 6 (.int .i64 (w64 (x + 1))) (.int .i64 (x + 1)) (by kernel_rfl) (by rw [hw1]) ?_
      refine hin1 _ (Option.some.inj H).symm _ _ ⟨_, _, _, cr2, at_slots _ (by kernel_rfl), (splice_len (vs := [.int .i64 ((idx a0 x).Txn), .int .i64 ((idx a0 x).Place), .int .i64 ((idx a0 x).Key), .slice A177 (((idx a0 x).Base).length) c178]) (by exact hfit)).trans hdl, ?_, ?_, by omega, by omega, by omega, by rw [hx2]; exact hI⟩
      · rw [hll, Nat.add_mul, Nat.one_mul, ← hck]
        exact splice_front (by omega) rfl
      · intro j u hu
        rw [hx2, splice_past (by exact hfit) (by show l.length * 4 + 4 ≤ _; omega)]
        exact hcr2 j u hu
    · refine go_else' (t := !y) (by kernel_rfl) hc2 ?_
      refine go_skip ?_
      replace hI := (hback _ _ hJ).pick (L' := [_, _, _]) [0, 1, 2] (by decide) rfl
      refine go_inBlock ?_
      refine r_in ?_
      refine o_batch 0 [] [.p, .p, .p] [(20, .int .i64 x), (21, .int .i64 (w64 (x + 1))), (6, .int .i64 (w64 (x + 1)))] [] trivial trivial (by kernel_rfl) (by kernel_rfl) (by kernel_rfl) ?_
      refine r_out (by kernel_rfl) ?_
      refine go_is 6 (.int .i64 (w64 (x + 1))) (.int .i64 (x + 1)) (by kernel_rfl) (by rw [hw1]) ?_
      exact hin1 _ (Option.some.inj H).symm _ _ ⟨_, ds, ck, cr2, at_slots _ (by kernel_rfl), hdl, hck, by rw [hx2]; exact hcr2, by omega, by omega, by omega, by rw [hx2]; exact hI⟩
  · refine go_else' (t := decide (x < (a0.length : Int))) (by kernel_rfl) hc1 ?_
    refine go_exit rfl ?_
    replace H := out_some H
    obtain ⟨_, H, he1⟩ := H
    have he := (hout1 _ he1).symm
    subst he
    replace H := Option.some.inj H
    subst H
    have hnx : ¬ x < (a0.length : Int) := by simpa using hc1
    repeat refine go_seq ?_
    refine r_in ?_
    refine o_batch 0 [] [.p, .p] [(36, .slice (some ⟨b, 0, none⟩) a0.length c0z), (37, .int .i64 (l.length : Int))] [] trivial trivial (by kernel_rfl) (by kernel_rfl) (by kernel_rfl) ?_
    refine o_eff 2 _ rfl (by kernel_rfl) ?_
    refine e_slice2 27 37 _ _ _ _ 4 (some ⟨b, 0, none⟩) a0.length c0z .i64 .i64 (l.length : Int) (a0.length : Int) rfl (by kernel_rfl) (by kernel_rfl) (by kernel_rfl) rfl rfl rfl ⟨by omega, by omega, by omega⟩ ?_
    refine o_eff 3 _ rfl (by kernel_rfl) ?_
    refine e_clear _ 27 37 _ 4 _ 2 b (l.length : Int).toNat (a0.length : Int).toNat c0z ds rfl (by kernel_rfl) rfl rfl rfl rfl rfl (by kernel_rfl) hI rfl (by omega) (by omega) (by omega) ?_
    clear hI
    intro _ vs hvs hI
    replace hI := hI.pick (L' := [_, _]) [0, 2] (by decide) rfl
    refine r_out (by kernel_rfl) ?_
    repeat refine go_seq ?_
    refine r_in ?_
    refine o_batch 0 [] [.p, .p] [(39, .slice (some ⟨b, 0, none⟩) a0.length c0z), (40, .int .i64 (l.length : Int))] [] trivial trivial (by kernel_rfl) (by kernel_rfl) (by kernel_rfl) ?_
    refine o_eff 2 _ rfl (by kernel_rfl) ?_
    refine e_slice2 27 37 _ _ _ _ 4 (some ⟨b, 0, none⟩) a0.length c0z .i64 .i64 0 (l.length : Int) rfl (by kernel_rfl) (by kernel_rfl) (by kernel_rfl) rfl rfl rfl ⟨by omega, by omega, by omega⟩ ?_
    refine o_batch 3 [] [.p] [(4, sliced (some ⟨b, 0, none⟩) (0 : Int).toNat (l.length : Int).toNat c0z 4)] [] trivial trivial (by kernel_rfl) (by kernel_rfl) (by kernel_rfl) ?_
    refine r_out (by kernel_rfl) ?_
    have hsl : sliced (some ⟨b, 0, none⟩) (0 : Int).toNat (l.length : Int).toNat c0z 4 = .slice (some ⟨b, 0, none⟩) l.length c0z := by rw [sliced_some]; simp
    refine go_is 4 _ _ (by kernel_rfl) hsl ?_
    refine go_return (.slice (some ⟨b, 0, none⟩) l.length c0z) Try.func33 (by kernel_rfl) ⟨_, _, rfl, hI.closeseq ?_ ?_ (by omega) hcm⟩
    · exact (splice_len (by omega)).trans hdl
    · rw [← hck]
      exact splice_early (by omega) (by show l.length * 4 ≤ _; omega)
theorem enter11 (a : Array Value) : Sem.pureRun Try.prog (callFunc 11 a) = some (.enter 11 a) := by kernel_rfl
theorem source_Empty_calls (a0 : History) (A0z0 : Option Addr) (c0z0 : Nat) (A0z1 : Option Addr) (c0z1 : Nat) (M : Mem) (w : World) (hI : Inv M w []) (hr0z0 : rdS tStr M.blk A0z0 a0.Keys) (hl0z0 : a0.Keys.length ≤ c0z0) (hr0z1 : rdS kTxn M.blk A0z1 a0.Txns) (hl0z1 : a0.Txns.length ≤ c0z1) (r : List Ask × Int) (H : source_Empty a0 = some r) :
    Calls Try.prog 11 #[.agg #[vS A0z0 a0.Keys.length c0z0, vS A0z1 a0.Txns.length c0z1]] w fun e w' => ∃ (A32 : Option Addr), ∃ (c33 : Nat), e = .returned (.tuple #[vS A32 r.1.length c33, vI r.2]) ∧ Inv M w' [.row kAsk 37 A32 r.1.length c33 r.1] := by
  refine cg Try.func11 ?_
  intro cs
  unfold source_Empty at H
  refine go_seq (r_in (oe 0 rfl ?_))
  refine e_box 25 _ (.agg #[vS A0z0 a0.Keys.length c0z0, vS A0z1 a0.Txns.length c0z1]) [vS A0z0 a0.Keys.length c0z0, vS A0z1 a0.Txns.length c0z1] rfl (by kernel_rfl) rfl hI ?_
  clear hI
  intro b2 _ hI
  refine bp 1 2 (ro (go_seq (r_in (bg 0 [.l 0 0] (gA (hI.grp 0 rfl)) ?_))))
  replace H := bind_some H
  obtain ⟨y7, hy8, H⟩ := H
  refine oe 1 rfl ?_
  refine ec (enter32 _) (local_Asks_calls a0 A0z0 c0z0 A0z1 c0z1 (memOf _) _ (Inv.start _) (hI.rd hr0z0) hl0z0 (hI.rd hr0z1) hl0z1 _ hy8) ?_
  rintro _ _ ⟨A9, c10, rfl, hI'⟩
  replace hI := hI.call0 hI'
  clear hI'
  refine ⟨_, rfl, ?_⟩
  refine bp 2 5 (ro (go_seq (go_seq (rp 2 ?_))))
  replace H := cond_some H
  rcases H with ⟨hc12, H⟩ | ⟨hc12, H⟩
  · refine gt hc12 (go_seq (rp 3 ?_))
    replace H := Option.some.inj H
    subst H
    exact gr Try.func11 ⟨none, 0, rfl, (hI.nilrow kAsk 37).pick [2] (by decide) rfl⟩
  · refine ge hc12 (go_skip (go_seq (r_in (bp 0 2 ?_))))
    replace H := bind_some H
    obtain ⟨y27, hy28, H⟩ := H
    obtain ⟨M22, hJ23, hs24, hro25, hback26⟩ := hI.call (R := [.row kAsk 37 A9 y7.1.length c10 y7.1]) (L0 := [.blk b2 25 [vS A0z0 a0.Keys.length c0z0, vS A0z1 a0.Txns.length c0z1]]) [1] [0] (by decide) rfl
    refine oe 2 rfl ?_
    refine ec (enter33 _) (slices_DeleteFunc_Ask_source_Empty_1zcalls A9 c10 y7.1 b2 a0 A0z0 c0z0 A0z1 c0z1 M22 _ hJ23 (blkOwn.lies (hro25 0 _ rfl).choose_spec) (rdS.mono hr0z0 hs24) hl0z0 (rdS.mono hr0z1 hs24) hl0z1 _ hy28) ?_
    rintro _ _ ⟨A29, c30, rfl, hI'⟩
    replace hI := hback26 _ _ hI'
    clear hI'
    refine ⟨_, rfl, ?_⟩
    refine bp 3 2 (ro ?_)
    replace H := Option.some.inj H
    subst H
    exact gr Try.func11 ⟨A29, c30, rfl, hI.pick [0] (by decide) rfl⟩
theorem enter76 (a : Array Value) : Sem.pureRun Try.prog (callFunc 76 a) = some (.enter 76 a) := by kernel_rfl
theorem source_known_1zcalls (a0 : Ask) (A0z0 : Option Addr) (c0z0 : Nat) (b1z : Nat) (a1 : Ask) (A1z0 : Option Addr) (c1z0 : Nat) (M : Mem) (w : World) (hI : Inv M w []) (hr0z0 : rdS (tInt .i64) M.blk A0z0 a0.Base) (hl0z0 : a0.Base.length ≤ c0z0) (hb1z : Lies M.blk (b1z, 0, [vI a1.Txn, vI a1.Place, vI a1.Key, vS A1z0 a1.Base.length c1z0])) (hr1z0 : rdS (tInt .i64) M.blk A1z0 a1.Base) (hl1z0 : a1.Base.length ≤ c1z0) (r : Bool) (H : source_known_1 a0 a1 = some r) :
    Calls Try.prog 76 #[.agg #[vI a0.Txn, vI a0.Place, vI a0.Key, vS A0z0 a0.Base.length c0z0], vP b1z 0] w fun e w' => e = .returned (vB r) ∧ Inv M w' [] := by
  refine cg Try.func76 ?_
  intro cs
  unfold source_known_1 at H
  refine go_seq (r_in (oe 0 rfl ?_))
  refine e_box 37 _ (.agg #[vI a0.Txn, vI a0.Place, vI a0.Key, vS A0z0 a0.Base.length c0z0]) [vI a0.Txn, vI a0.Place, vI a0.Key, vS A0z0 a0.Base.length c0z0] rfl (by kernel_rfl) rfl hI ?_
  clear hI
  intro b2 _ hI
  refine bp 1 1 (ro (go_seq (r_in ?_)))
  replace H := cond_some H
  rcases H with ⟨hc8, H⟩ | ⟨hc8, H⟩
  · replace H := cond_some H
    rcases H with ⟨hc9, H⟩ | ⟨hc9, H⟩
    · replace H := cond_some H
      rcases H with ⟨hc10, H⟩ | ⟨hc10, H⟩
      · refine bx 0 [.p, .l 0 0, .p, .l 1 0, .p, .c true, .p, .l 0 1, .p, .l 1 1, .p, .p, .c true, .p, .l 0 2, .p, .l 1 2, .p, .p, .c true, .p, .l 0 3, .p, .l 1 3] (gB (hI.lies hb1z) (hI.grp 0 rfl)) _ (bC (bndEq hc8) (bC (bndEq hc9) (bZ (bndEq hc10)))) ?_
        replace H := bind_some H
        obtain ⟨y11, hy12, H⟩ := H
        refine oe 24 rfl ?_
        refine ec (enter54 _) (slices_Equal_int64zcalls A1z0 c1z0 a1.Base A0z0 c0z0 a0.Base (memOf _) _ (Inv.start _) (hI.rd hr1z0) hl1z0 (hI.rd hr0z0) hl0z0 _ hy12) ?_
        rintro _ _ ⟨rfl, hI'⟩
        replace hI := hI.call0 hI'
        clear hI'
        refine ⟨_, rfl, ?_⟩
        refine bp 25 2 (ro ?_)
        replace H := Option.some.inj H
        subst H
        exact gr Try.func76 ⟨rfl, hI.pn⟩
      · refine bx 0 [.p, .l 0 0, .p, .l 1 0, .p, .c true, .p, .l 0 1, .p, .l 1 1, .p, .p, .c true, .p, .l 0 2, .p, .l 1 2, .p, .p, .c false, .p, .p, .p, .p, .p, .p, .p] (gB (hI.lies hb1z) (hI.grp 0 rfl)) _ (bC (bndEq hc8) (bC (bndEq hc9) (bZ (bndEq hc10)))) (ro ?_)
        replace H := Option.some.inj H
        subst H
        exact gr Try.func76 ⟨rfl, hI.pn⟩
    · refine bx 0 [.p, .l 0 0, .p, .l 1 0, .p, .c true, .p, .l 0 1, .p, .l 1 1, .p, .p, .c false, .p, .p, .p, .p, .p, .p, .p, .p, .p, .p, .p, .p, .p, .p] (gB (hI.lies hb1z) (hI.grp 0 rfl)) _ (bC (bndEq hc8) (bZ (bndEq hc9))) (ro ?_)
      replace H := Option.some.inj H
      subst H
      exact gr Try.func76 ⟨rfl, hI.pn⟩
  · refine bx 0 [.p, .l 0 0, .p, .l 1 0, .p, .c false, .p, .p, .p, .p, .p, .p, .p, .p, .p, .p, .p, .p, .p, .p, .p, .p, .p, .p, .p, .p, .p] (gB (hI.lies hb1z) (hI.grp 0 rfl)) _ (bZ (bndEq hc8)) (ro ?_)
    replace H := Option.some.inj H
    subst H
    exact gr Try.func76 ⟨rfl, hI.pn⟩
theorem slices_IndexFunc_Ask_source_known_1zcalls (A0z : Option Addr) (c0z : Nat) (a0 : List Ask) (b1c0z : Nat) (a1c0 : Ask) (A1c0z0 : Option Addr) (c1c0z0 : Nat) (M : Mem) (w : World) (hI : Inv M w []) (hr0z : rdS kAsk M.blk A0z a0) (hl0z : a0.length ≤ c0z) (hb1c0z : Lies M.blk (b1c0z, 0, [vI a1c0.Txn, vI a1c0.Place, vI a1c0.Key, vS A1c0z0 a1c0.Base.length c1c0z0])) (hr1c0z0 : rdS (tInt .i64) M.blk A1c0z0 a1c0.Base) (hl1c0z0 : a1c0.Base.length ≤ c1c0z0) (r : Int) (H : slices_IndexFunc_Ask_source_known_1 a0 a1c0 = some r) :
    Calls Try.prog 61 #[vS A0z a0.length c0z, .func (.func 76) #[] #[vP b1c0z 0]] w fun e w' => e = .returned (vI r) ∧ Inv M w' [] := by
  refine cg Try.func61 ?_
  intro cs
  unfold slices_IndexFunc_Ask_source_known_1 at H
  refine go_seq (rp 1 (go_seq (go_seq (rp 3 (go_block ?_)))))
  refine go_iter (slices_IndexFunc_Ask_source_known_1.s1 a0 a1c0) (fun x130 f w => ∃ (j : Nat → Value), f = updL j [(0, vS A0z a0.length c0z), (1, .func (.func 76) #[] #[vP b1c0z 0]), (7, vI (a0.length : Int)), (8, vI x130)] ∧ Inv M w []) H ⟨_, at_, hI⟩ ?_
  clear H hI
  rintro x130 _ _ o1 H ⟨_, rfl, hI⟩ hin1 hout1
  refine go_seq (rp 1 (go_seq ?_))
  replace H := cond_some H
  rcases H with ⟨hc132, H⟩ | ⟨hc132, H⟩
  · refine gt hc132 (go_skip (go_seq (go_block (go_seq (rp 2 (go_seq (r_in ?_)))))))
    replace H := must_some H
    obtain ⟨g171, H⟩ := H
    obtain ⟨b175, q176, rfl, cs174, hk173, hg172⟩ := rdS.open hr0z rfl g171
    obtain ⟨_, _, rfl, rfl, ⟨_, _, rfl, rfl, ⟨_, _, rfl, rfl, ⟨A177, c178, rfl, hl180, hr179⟩⟩⟩⟩ := hk173
    refine bx 0 [.p, .p, .p, .x, .l 0 0] (gA (hI.lies hg172)) _ (bZ g171) ?_
    replace H := bind_some H
    obtain ⟨y181, hy182, H⟩ := H
    refine oe 5 rfl ?_
    refine e_callf _ _ _ 76 #[] #[vP b1c0z 0] #[.agg #[vI ((idx a0 x130).Txn), vI ((idx a0 x130).Place), vI ((idx a0 x130).Key), vS A177 (((idx a0 x130).Base).length) c178]] #[.agg #[vI ((idx a0 x130).Txn), vI ((idx a0 x130).Place), vI ((idx a0 x130).Key), vS A177 (((idx a0 x130).Base).length) c178], vP b1c0z 0] rfl (by kernel_rfl) (by kernel_rfl) (by kernel_rfl) (enter76 _) (source_known_1zcalls (idx a0 x130) A177 c178 b1c0z a1c0 A1c0z0 c1c0z0 (memOf _) _ (Inv.start _) (hI.rd hr179) hl180 (Lies.mono hb1c0z hI.fix) (hI.rd hr1c0z0) hl1c0z0 _ hy182) ?_
    rintro _ _ ⟨rfl, hI'⟩
    replace hI := hI.call0 hI'
    clear hI'
    refine ⟨_, rfl, ?_⟩
    refine ro ?_
    replace H := cond_some H
    rcases H with ⟨hc183, H⟩ | ⟨hc183, H⟩
    · refine gt hc183 (go_seq (rp 2 ?_))
      replace H := out_some H
      obtain ⟨_, H, he1⟩ := H
      have he := (hout1 _ he1).symm
      subst he
      replace H := Option.some.inj H
      subst H
      exact gr Try.func61 ⟨rfl, hI⟩
    · refine ge hc183 (go_skip (go_inBlock (rp 2 ?_)))
      exact hin1 _ (Option.some.inj H).symm _ _ ⟨_, at_, hI⟩
  · refine ge hc132 ?_
    refine go_exit rfl ?_
    refine go_seq (rp 1 ?_)
    replace H := out_some H
    obtain ⟨_, H, he1⟩ := H
    have he := (hout1 _ he1).symm
    subst he
    replace H := Option.some.inj H
    subst H
    exact gr Try.func61 ⟨rfl, hI⟩
theorem enter75 (a : Array Value) : Sem.pureRun Try.prog (callFunc 75 a) = some (.enter 75 a) := by kernel_rfl
theorem slices_ContainsFunc_Ask_source_known_1zcalls (A0z : Option Addr) (c0z : Nat) (a0 : List Ask) (b1c0z : Nat) (a1c0 : Ask) (A1c0z0 : Option Addr) (c1c0z0 : Nat) (M : Mem) (w : World) (hI : Inv M w []) (hr0z : rdS kAsk M.blk A0z a0) (hl0z : a0.length ≤ c0z) (hb1c0z : Lies M.blk (b1c0z, 0, [vI a1c0.Txn, vI a1c0.Place, vI a1c0.Key, vS A1c0z0 a1c0.Base.length c1c0z0])) (hr1c0z0 : rdS (tInt .i64) M.blk A1c0z0 a1c0.Base) (hl1c0z0 : a1c0.Base.length ≤ c1c0z0) (r : Bool) (H : slices_ContainsFunc_Ask_source_known_1 a0 a1c0 = some r) :
    Calls Try.prog 75 #[vS A0z a0.length c0z, .func (.func 76) #[] #[vP b1c0z 0]] w fun e w' => e = .returned (vB r) ∧ Inv M w' [] := by
  refine cg Try.func75 ?_
  intro cs
  unfold slices_ContainsFunc_Ask_source_known_1 at H
  refine go_seq (rp 1 (go_seq (r_in (bp 0 2 ?_))))
  replace H := bind_some H
  obtain ⟨y3, hy4, H⟩ := H
  refine oe 2 rfl ?_
  refine ec (enter61 _) (slices_IndexFunc_Ask_source_known_1zcalls A0z c0z a0 b1c0z a1c0 A1c0z0 c1c0z0 (memOf _) _ (Inv.start _) (hI.rd hr0z) hl0z (Lies.mono hb1c0z hI.fix) (hI.rd hr1c0z0) hl1c0z0 _ hy4) ?_
  rintro _ _ ⟨rfl, hI'⟩
  replace hI := hI.call0 hI'
  clear hI'
  refine ⟨_, rfl, ?_⟩
  refine bp 3 2 (ro ?_)
  replace H := Option.some.inj H
  subst H
  exact gr Try.func75 ⟨rfl, hI⟩
theorem enter39 (a : Array Value) : Sem.pureRun Try.prog (callFunc 39 a) = some (.enter 39 a) := by kernel_rfl
theorem source_known_calls (a0 : History) (A0z0 : Option Addr) (c0z0 : Nat) (A0z1 : Option Addr) (c0z1 : Nat) (a1 : Ask) (A1z0 : Option Addr) (c1z0 : Nat) (M : Mem) (w : World) (hI : Inv M w []) (hr0z0 : rdS tStr M.blk A0z0 a0.Keys) (hl0z0 : a0.Keys.length ≤ c0z0) (hr0z1 : rdS kTxn M.blk A0z1 a0.Txns) (hl0z1 : a0.Txns.length ≤ c0z1) (hr1z0 : rdS (tInt .i64) M.blk A1z0 a1.Base) (hl1z0 : a1.Base.length ≤ c1z0) (r : Int) (H : source_known a0 a1 = some r) :
    Calls Try.prog 39 #[.agg #[vS A0z0 a0.Keys.length c0z0, vS A0z1 a0.Txns.length c0z1], .agg #[vI a1.Txn, vI a1.Place, vI a1.Key, vS A1z0 a1.Base.length c1z0]] w fun e w' => e = .returned (vI r) ∧ Inv M w' [] := by
  refine cg Try.func39 ?_
  intro cs
  unfold source_known at H
  refine go_seq (r_in (oe 0 rfl ?_))
  refine e_box 25 _ (.agg #[vS A0z0 a0.Keys.length c0z0, vS A0z1 a0.Txns.length c0z1]) [vS A0z0 a0.Keys.length c0z0, vS A0z1 a0.Txns.length c0z1] rfl (by kernel_rfl) rfl hI ?_
  clear hI
  intro b3 _ hI
  refine oe 1 rfl ?_
  refine e_box 37 _ (.agg #[vI a1.Txn, vI a1.Place, vI a1.Key, vS A1z0 a1.Base.length c1z0]) [vI a1.Txn, vI a1.Place, vI a1.Key, vS A1z0 a1.Base.length c1z0] rfl (by kernel_rfl) rfl hI ?_
  clear hI
  intro b4 _ hI
  refine bp 2 1 (ro (go_seq (r_in (bg 0 [.l 0 0] (gA (hI.grp 0 rfl)) ?_))))
  replace H := bind_some H
  obtain ⟨y9, hy10, H⟩ := H
  refine oe 1 rfl ?_
  refine ec (enter32 _) (local_Asks_calls a0 A0z0 c0z0 A0z1 c0z1 (memOf _) _ (Inv.start _) (hI.rd hr0z0) hl0z0 (hI.rd hr0z1) hl0z1 _ hy10) ?_
  rintro _ _ ⟨A11, c12, rfl, hI'⟩
  replace hI := hI.call0 hI'
  clear hI'
  refine ⟨_, rfl, ?_⟩
  refine bp 2 5 (ro (go_seq (go_seq (rp 2 ?_))))
  replace H := cond_some H
  rcases H with ⟨hc14, H⟩ | ⟨hc14, H⟩
  · refine gt hc14 (go_seq (rp 2 ?_))
    replace H := Option.some.inj H
    subst H
    exact gr Try.func39 ⟨rfl, hI.pn⟩
  · refine ge hc14 (go_skip (go_seq (go_seq (r_in (bp 0 2 ?_)))))
    replace H := bind_some H
    obtain ⟨y20, hy21, H⟩ := H
    refine oe 2 rfl ?_
    refine ec (enter75 _) (slices_ContainsFunc_Ask_source_known_1zcalls A11 c12 y9.1 b4 a1 A1z0 c1z0 (memOf _) _ (Inv.start _) (hI.row 2 rfl) (hI.rowle 2 rfl) (Grp.lies (hI.grp 1 rfl)) (hI.rd hr1z0) hl1z0 _ hy21) ?_
    rintro _ _ ⟨rfl, hI'⟩
    replace hI := hI.call0 hI'
    clear hI'
    refine ⟨_, rfl, ?_⟩
    refine ro ?_
    replace H := cond_some H
    rcases H with ⟨hc22, H⟩ | ⟨hc22, H⟩
    · refine gt hc22 (go_seq (rp 1 ?_))
      replace H := Option.some.inj H
      subst H
      exact gr Try.func39 ⟨rfl, hI.pn⟩
    · refine ge hc22 (go_skip (go_seq (rp 1 ?_)))
      replace H := Option.some.inj H
      subst H
      exact gr Try.func39 ⟨rfl, hI.pn⟩
theorem enter14 (a : Array Value) : Sem.pureRun Try.prog (callFunc 14 a) = some (.enter 14 a) := by kernel_rfl
theorem source_Sources_calls (a0 : History) (A0z0 : Option Addr) (c0z0 : Nat) (A0z1 : Option Addr) (c0z1 : Nat) (a1 : Ask) (A1z0 : Option Addr) (c1z0 : Nat) (M : Mem) (w : World) (hI : Inv M w []) (hr0z0 : rdS tStr M.blk A0z0 a0.Keys) (hl0z0 : a0.Keys.length ≤ c0z0) (hr0z1 : rdS kTxn M.blk A0z1 a0.Txns) (hl0z1 : a0.Txns.length ≤ c0z1) (hr1z0 : rdS (tInt .i64) M.blk A1z0 a1.Base) (hl1z0 : a1.Base.length ≤ c1z0) (r : List Int × Int) (H : source_Sources a0 a1 = some r) :
    Calls Try.prog 14 #[.agg #[vS A0z0 a0.Keys.length c0z0, vS A0z1 a0.Txns.length c0z1], .agg #[vI a1.Txn, vI a1.Place, vI a1.Key, vS A1z0 a1.Base.length c1z0]] w fun e w' => ∃ (A22 : Option Addr), ∃ (c23 : Nat), e = .returned (.tuple #[vS A22 r.1.length c23, vI r.2]) ∧ Inv M w' [orA noM (tInt .i64) 3 A22 r.1.length c23 r.1] := by
  refine cg Try.func14 ?_
  intro cs
  unfold source_Sources at H
  refine go_seq (r_in (oe 0 rfl ?_))
  refine e_box 25 _ (.agg #[vS A0z0 a0.Keys.length c0z0, vS A0z1 a0.Txns.length c0z1]) [vS A0z0 a0.Keys.length c0z0, vS A0z1 a0.Txns.length c0z1] rfl (by kernel_rfl) rfl hI ?_
  clear hI
  intro b3 _ hI
  refine oe 1 rfl ?_
  refine e_box 37 _ (.agg #[vI a1.Txn, vI a1.Place, vI a1.Key, vS A1z0 a1.Base.length c1z0]) [vI a1.Txn, vI a1.Place, vI a1.Key, vS A1z0 a1.Base.length c1z0] rfl (by kernel_rfl) rfl hI ?_
  clear hI
  intro b4 _ hI
  refine bp 2 2 (ro (go_seq (go_seq (r_in (bg 0 [.l 0 0, .l 1 0] (gB (hI.grp 0 rfl) (hI.grp 1 rfl)) ?_)))))
  replace H := bind_some H
  obtain ⟨y10, hy11, H⟩ := H
  refine oe 2 rfl ?_
  refine ec (enter39 _) (source_known_calls a0 A0z0 c0z0 A0z1 c0z1 a1 A1z0 c1z0 (memOf _) _ (Inv.start _) (hI.rd hr0z0) hl0z0 (hI.rd hr0z1) hl0z1 (hI.rd hr1z0) hl1z0 _ hy11) ?_
  rintro _ _ ⟨rfl, hI'⟩
  replace hI := hI.call0 hI'
  clear hI'
  refine ⟨_, rfl, ?_⟩
  refine bp 3 1 (ro (go_seq (rp 2 ?_)))
  replace H := cond_some H
  rcases H with ⟨hc12, H⟩ | ⟨hc12, H⟩
  · refine gt hc12 (go_seq (rp 3 ?_))
    replace H := Option.some.inj H
    subst H
    exact gr Try.func14 ⟨none, 0, rfl, (hI.addOr (k := (tInt .i64)) (N := noM) 3 (.inl rfl) (Nat.le_refl _) rfl).pick [2] (by decide) rfl⟩
  · refine ge hc12 (go_skip (go_seq (r_in (bg 0 [.l 0 0, .l 1 0] (gB (hI.grp 0 rfl) (hI.grp 1 rfl)) ?_))))
    replace H := bind_some H
    obtain ⟨y17, hy18, H⟩ := H
    refine oe 2 rfl ?_
    refine ec (enter35 _) (source_sources_calls a0 A0z0 c0z0 A0z1 c0z1 a1 A1z0 c1z0 (memOf _) _ (Inv.start _) (hI.rd hr0z0) hl0z0 (hI.rd hr0z1) hl0z1 (hI.rd hr1z0) hl1z0 _ hy18) ?_
    rintro _ _ ⟨A19, c20, rfl, hI'⟩
    replace hI := hI.call0 hI'
    clear hI'
    refine ⟨_, rfl, ?_⟩
    refine bp 3 2 (ro ?_)
    replace H := Option.some.inj H
    subst H
    exact gr Try.func14 ⟨A19, c20, rfl, hI.pick [2] (by decide) rfl⟩
end Go.Proofs.YtnlkggppokcmfaaT
