/- The walks, part 2: each call computes its plain function. -/
import Derived.Test.YtmfihodpbladeaaTW1
import Derived.Test.YtmfihodpbladeaaProg
namespace Go.Proofs.YtmfihodpbladeaaT
open Go Go.Proofs Go.Proofs.YtmfihodpbladeaaE
set_option linter.unusedVariables false
set_option linter.unusedSimpArgs false
set_option maxHeartbeats 0
set_option maxRecDepth 4096
/-! ### local_found_look -/
theorem enter42 (a : Array Value) : Sem.pureRun Try.prog (callFunc 42 a) = some (.enter 42 a) := by kernel_rfl
theorem local_found_look_calls (b0z : Nat) (a0 : LocalFound) (A0z0 : Option Addr) (c0z0 : Nat) (A0z1 : Option Addr) (c0z1 : Nat) (a1 : History) (A1z0 : Option Addr) (c1z0 : Nat) (A1z1 : Option Addr) (c1z1 : Nat) (a2 : Int) (M : Mem) (w : World) (hI : Inv M w [.blk b0z 75 [vS A0z0 a0.asks.length c0z0, vS A0z1 a0.bad.length c0z1], .row kAsk 51 A0z0 a0.asks.length c0z0 a0.asks, .row kSpot 53 A0z1 a0.bad.length c0z1 a0.bad]) (hr1z0 : rdS tStr M.blk A1z0 a1.Keys) (hl1z0 : a1.Keys.length ≤ c1z0) (hr1z1 : rdS kTxn M.blk A1z1 a1.Txns) (hl1z1 : a1.Txns.length ≤ c1z1) (r : LocalFound) (H : local_found_look a0 a1 a2 = some r) :
    Calls Try.prog 42 #[vP b0z 0, .agg #[vS A1z0 a1.Keys.length c1z0, vS A1z1 a1.Txns.length c1z1], vI a2] w fun e w' => ∃ (A1197 : Option Addr), ∃ (c1198 : Nat), ∃ (A1199 : Option Addr), ∃ (c1200 : Nat), e = .returned (.tuple #[]) ∧ Inv M w' [.blk b0z 75 [vS A1197 r.asks.length c1198, vS A1199 r.bad.length c1200], .row kAsk 51 A1197 r.asks.length c1198 r.asks, .row kSpot 53 A1199 r.bad.length c1200 r.bad] := by
  refine cg Try.func42 ?_
  intro cs
  unfold local_found_look at H
  refine go_seq (r_in (oe 0 rfl ?_))
  refine e_box 40 _ (.agg #[vS A1z0 a1.Keys.length c1z0, vS A1z1 a1.Txns.length c1z1]) [vS A1z0 a1.Keys.length c1z0, vS A1z1 a1.Txns.length c1z1] rfl (by kernel_rfl) rfl hI ?_
  clear hI
  intro b2 _ hI
  refine ro (go_seq (go_seq (r_in ?_)))
  replace H := must_some H
  obtain ⟨g24, H⟩ := H
  obtain ⟨b28, q29, rfl, cs27, hk26, hg25⟩ := rdS.open hr1z1 rfl g24
  obtain ⟨_, _, rfl, rfl, ⟨_, _, rfl, rfl, ⟨_, _, rfl, rfl, ⟨_, _, rfl, rfl, ⟨A30, c31, rfl, hl33, hr32⟩⟩⟩⟩⟩ := hk26
  refine bx 0 [.p, .l 0 1, .p, .x, .p, .l 1 1, .p] (gB (hI.grp 3 rfl) (hI.lies hg25)) _ (bZ g24) (ro ?_)
  replace H := cond_some H
  rcases H with ⟨hc34, H⟩ | ⟨hc34, H⟩
  · refine gt hc34 ?_
    replace H := Option.some.inj H
    subst H
    exact gr Try.func42 ⟨A0z0, c0z0, A0z1, c0z1, rfl, hI.pick [0, 1, 2] (by decide) rfl⟩
  · refine ge hc34 (go_skip (go_seq (r_in (oe 0 rfl ?_))))
    refine e_makemapO Int (List Int) (fun x : Int => vI x) (tSlice 2 (tInt .i64)) 100 rfl hI ?_
    clear hI
    intro b36 _ hI
    refine bp 1 1 (ro (go_seq (r_in ?_)))
    obtain ⟨cs46, hk45, hg44⟩ := rdS.look hr1z1 rfl g24
    obtain ⟨_, _, rfl, rfl, ⟨_, _, rfl, rfl, ⟨_, _, rfl, rfl, ⟨_, _, rfl, rfl, ⟨A47, c48, rfl, hl50, hr49⟩⟩⟩⟩⟩ := hk45
    refine bx 0 [.p, .l 0 1, .p, .x, .p, .l 1 4, .p, .p] (gB (hI.grp 3 rfl) (hI.lies hg44)) _ (bZ g24) (ro (go_block ?_))
    refine go_iter (local_found_look.s1 a1 a2) (fun (l709, l712, m715, x716) f w => ∃ (j : Nat → Value) (A710 : Option Addr) (c711 : Nat) (A713 : Option Addr) (c714 : Nat), f = updL j [(0, vP b0z 0), (2, vI a2), (6, .map (some b36)), (25, vS A47 (((idx a1.Txns a2).Ops).length) c48), (26, vI (((idx a1.Txns a2).Ops).length : Int)), (27, vI x716)] ∧ Inv M w [.blk b0z 75 [vS A710 l709.length c711, vS A713 l712.length c714], .row kAsk 51 A710 l709.length c711 l709, .row kSpot 53 A713 l712.length c714 l712, mapO (fun x : Int => vI x) (tSlice 2 (tInt .i64)) b36 m715]) H ⟨_, A0z0, c0z0, A0z1, c0z1, at_, hI.pick [0, 1, 2, 4] (by decide) rfl⟩ ?_
    clear H hI
    rintro ⟨l709, l712, m715, x716⟩ _ _ o1 H ⟨_, A710, c711, A713, c714, rfl, hI⟩ hin1 hout1
    refine go_seq (rp 1 (go_seq ?_))
    replace H := cond_some H
    rcases H with ⟨hc718, H⟩ | ⟨hc718, H⟩
    · refine gt hc718 (go_skip (go_seq ?_))
      refine go_block_join (o := o1) (fun (l938, l941, m944) f w => ∃ (j : Nat → Value) (A939 : Option Addr) (c940 : Nat) (A942 : Option Addr) (c943 : Nat), f = updL j [(0, vP b0z 0), (2, vI a2), (6, .map (some b36)), (25, vS A47 (((idx a1.Txns a2).Ops).length) c48), (26, vI (((idx a1.Txns a2).Ops).length : Int)), (27, vI x716)] ∧ Inv M w [.blk b0z 75 [vS A939 l938.length c940, vS A942 l941.length c943], .row kAsk 51 A939 l938.length c940 l938, .row kSpot 53 A942 l941.length c943 l941, mapO (fun x : Int => vI x) (tSlice 2 (tInt .i64)) b36 m944]) (fun (l938, l941, m944) => local_found_look.j2 x716 l938 l941 m944) ?_ (fun hJ945 => ?_)
      · clear H hI
        rintro ⟨l938, l941, m944⟩ _ _ ⟨_, A939, c940, A942, c943, rfl, hI⟩ H
        refine rp 2 ?_
        exact hin1 _ (Option.some.inj H).symm _ _ ⟨_, A939, c940, A942, c943, at_, hI⟩
      · refine go_seq (r_in ?_)
        replace H := must_some H
        obtain ⟨g957, H⟩ := H
        obtain ⟨b961, q962, rfl, cs960, hk959, hg958⟩ := rdS.open hr49 rfl g957
        obtain ⟨_, _, rfl, rfl, ⟨_, _, rfl, rfl, ⟨_, _, rfl, rfl, ⟨_, _, rfl, rfl, ⟨A963, c964, rfl, hl966, hr965⟩⟩⟩⟩⟩ := hk959
        refine bx 0 [.p, .x, .l 0 0] (gA (hI.lies hg958)) _ (bZ g957) (oe 3 rfl ?_)
        refine e_alloc 63 (.agg #[vI 0, vI 0, vI 0, vB false, vS none 0 0]) [vI 0, vI 0, vI 0, vB false, vS none 0 0] rfl (by kernel_rfl) rfl hI ?_
        clear hI
        intro b967 _ hI
        refine bp 4 1 (oe 5 rfl ?_)
        refine e_store 63 _ _ 4 b967 63 [vI 0, vI 0, vI 0, vB false, vS none 0 0] [vI ((idx ((idx a1.Txns a2).Ops) x716).Kind), vI ((idx ((idx a1.Txns a2).Ops) x716).Key), vI ((idx ((idx a1.Txns a2).Ops) x716).Arg), vB ((idx ((idx a1.Txns a2).Ops) x716).Got), vS A963 (((idx ((idx a1.Txns a2).Ops) x716).Vals).length) c964] 0 (.agg #[vI ((idx ((idx a1.Txns a2).Ops) x716).Kind), vI ((idx ((idx a1.Txns a2).Ops) x716).Key), vI ((idx ((idx a1.Txns a2).Ops) x716).Arg), vB ((idx ((idx a1.Txns a2).Ops) x716).Got), vS A963 (((idx ((idx a1.Txns a2).Ops) x716).Vals).length) c964]) rfl (by kernel_rfl) (by kernel_rfl) (by kernel_rfl) (by kernel_rfl) hI rfl (by kernel_rfl) (by kernel_rfl) ?_
        clear hI
        intro _ hI
        refine ro (go_seq (go_seq (rg [.p, .l 0 0, .p] (gA (hI.grp 4 rfl)) ?_)))
        replace H := cond_some H
        rcases H with ⟨hc1015, H⟩ | ⟨hc1015, H⟩
        · refine gt hc1015 (go_seq ?_)
          replace H := must_some H
          obtain ⟨g1069, H⟩ := H
          refine go_held (fun w => Inv M w [.blk b0z 75 [vS A710 l709.length c711, vS A713 l712.length c714], .row kAsk 51 A710 l709.length c711 l709, .row kSpot 53 A713 l712.length c714 l712, .blk b967 63 [vI ((idx ((idx a1.Txns a2).Ops) x716).Kind), vI ((idx ((idx a1.Txns a2).Ops) x716).Key), vI ((idx ((idx a1.Txns a2).Ops) x716).Arg), vB ((idx ((idx a1.Txns a2).Ops) x716).Got), vS A963 (((idx ((idx a1.Txns a2).Ops) x716).Vals).length) c964]]) (by kernel_rfl) ?_
          replace hI := hI.drew'
          refine hg (n := 4) [(0, .p), (1, .p), (2, .l 0 1), (3, .p), (4, .p), (5, .l 0 1), (7, .p), (8, .l 0 2)] (fun _ hS => (gA (hS.grp 3 rfl))) (hI.pk [0, 1, 2, 4]) ?_
          refine held_each (n := 3) [6, 9] (by simp) (by kernel_rfl) ⟨⟨_, rfl, by kernel_rfl, ?_⟩, ⟨_, rfl, by kernel_rfl, ?_⟩, trivial⟩
          · refine (e_lookupO (ek := (fun x : Int => vI x)) (kt := (tInt .i64)) (e := 2) 100 3 22 _ _ false 3 b36 m715 ((idx ((idx a1.Txns a2).Ops) x716).Key) rfl (by kernel_rfl) (key_int (by kernel_rfl)) (fun _ => by kernel_rfl) (by kernel_rfl) (by kernel_rfl) hI rfl ?_)
            intro A1079 c1080 hr1081 hl1082 hat1083
            replace hI := hI.pin 3 rfl hat1083
            refine ⟨(hI.pk [0, 1, 2, 4]), ?_⟩
            refine ho (n := 2) 9 rfl (e_partsS 22 2 1 _ _ _ #[vI ((idx ((idx a1.Txns a2).Ops) x716).Arg)] [vI ((idx ((idx a1.Txns a2).Ops) x716).Arg)] rfl rfl rfl rfl (by kernel_rfl) (by kernel_rfl) (by kernel_rfl) (by kernel_rfl) hI ?_)
            clear hI
            intro b1086 _ hs1087 hI
            refine ⟨(hI.pk [0, 1, 2, 4]), ?_⟩
            replace hI := hI.takeP 3 rfl
            refine ho (n := 1) 10 rfl (e_append (tInt .i64) 22 0 2 _ _ _ _ A1079 ((mat m715 ((idx ((idx a1.Txns a2).Ops) x716).Key)).length) c1080 (mat m715 ((idx ((idx a1.Txns a2).Ops) x716).Key)) ([(idx ((idx a1.Txns a2).Ops) x716).Arg] : List Int) b1086 0 1 1 [vI ((idx ((idx a1.Txns a2).Ops) x716).Arg)] 0 [] [1, 2, 3, 4, 5, 6] [] [.blk b0z 75 [vS A710 l709.length c711, vS A713 l712.length c714], .row kAsk 51 A710 l709.length c711 l709, .row kSpot 53 A713 l712.length c714 l712, mapO (fun x : Int => vI x) (tOpt (tSlice 2 (tInt .i64))) b36 (mhole m715 ((idx ((idx a1.Txns a2).Ops) x716).Key) [vS A1079 (mat m715 ((idx ((idx a1.Txns a2).Ops) x716).Key)).length c1080]), .blk b967 63 [vI ((idx ((idx a1.Txns a2).Ops) x716).Kind), vI ((idx ((idx a1.Txns a2).Ops) x716).Key), vI ((idx ((idx a1.Txns a2).Ops) x716).Arg), vB ((idx ((idx a1.Txns a2).Ops) x716).Got), vS A963 (((idx ((idx a1.Txns a2).Ops) x716).Vals).length) c964], .blk b1086 2 [vI ((idx ((idx a1.Txns a2).Ops) x716).Arg)]] rfl (by kernel_rfl) (by kernel_rfl) rfl rfl rfl rfl rfl (by kernel_rfl) hI (by decide) rfl rfl rfl (hI.grp 6 rfl) g1069 (mks_cons (mk_flat (k := (tInt .i64)) ((idx ((idx a1.Txns a2).Ops) x716).Arg) [vI ((idx ((idx a1.Txns a2).Ops) x716).Arg)] rfl) mks_nil) ?_)
            clear hI
            intro A1090 c1091 _ hI
            replace hI := hI.pick (L' := [.row (tInt .i64) 2 A1090 (((mat m715 ((idx ((idx a1.Txns a2).Ops) x716).Key)) ++ ([(idx ((idx a1.Txns a2).Ops) x716).Arg] : List Int)).length) c1091 ((mat m715 ((idx ((idx a1.Txns a2).Ops) x716).Key)) ++ ([(idx ((idx a1.Txns a2).Ops) x716).Arg] : List Int)), .blk b0z 75 [vS A710 l709.length c711, vS A713 l712.length c714], .row kAsk 51 A710 l709.length c711 l709, .row kSpot 53 A713 l712.length c714 l712, mapO (fun x : Int => vI x) (tOpt (tSlice 2 (tInt .i64))) b36 (mhole m715 ((idx ((idx a1.Txns a2).Ops) x716).Key) [vS A1079 (mat m715 ((idx ((idx a1.Txns a2).Ops) x716).Key)).length c1080]), .blk b967 63 [vI ((idx ((idx a1.Txns a2).Ops) x716).Kind), vI ((idx ((idx a1.Txns a2).Ops) x716).Key), vI ((idx ((idx a1.Txns a2).Ops) x716).Arg), vB ((idx ((idx a1.Txns a2).Ops) x716).Got), vS A963 (((idx ((idx a1.Txns a2).Ops) x716).Vals).length) c964]]) [0, 1, 2, 3, 4, 5] (by decide) rfl
            refine ⟨(hI.pk [1, 2, 3, 5]), ?_⟩
            refine ho (n := 0) 11 rfl (e_mapputO (kv := tOpt (tSlice 2 (tInt .i64))) (ek := (fun x : Int => vI x)) 100 3 22 _ _ _ 4 [0] [1, 2, 3, 5] [.row (tInt .i64) 2 A1090 (((mat m715 ((idx ((idx a1.Txns a2).Ops) x716).Key)) ++ ([(idx ((idx a1.Txns a2).Ops) x716).Arg] : List Int)).length) c1091 ((mat m715 ((idx ((idx a1.Txns a2).Ops) x716).Key)) ++ ([(idx ((idx a1.Txns a2).Ops) x716).Arg] : List Int))] [.blk b0z 75 [vS A710 l709.length c711, vS A713 l712.length c714], .row kAsk 51 A710 l709.length c711 l709, .row kSpot 53 A713 l712.length c714 l712, .blk b967 63 [vI ((idx ((idx a1.Txns a2).Ops) x716).Kind), vI ((idx ((idx a1.Txns a2).Ops) x716).Key), vI ((idx ((idx a1.Txns a2).Ops) x716).Arg), vB ((idx ((idx a1.Txns a2).Ops) x716).Got), vS A963 (((idx ((idx a1.Txns a2).Ops) x716).Vals).length) c964]] b36 (mhole m715 ((idx ((idx a1.Txns a2).Ops) x716).Key) [vS A1079 (mat m715 ((idx ((idx a1.Txns a2).Ops) x716).Key)).length c1080]) ((idx ((idx a1.Txns a2).Ops) x716).Key) (Sum.inl ((mat m715 ((idx ((idx a1.Txns a2).Ops) x716).Key)) ++ ([(idx ((idx a1.Txns a2).Ops) x716).Arg] : List Int))) (vS A1090 (((mat m715 ((idx ((idx a1.Txns a2).Ops) x716).Key)) ++ ([(idx ((idx a1.Txns a2).Ops) x716).Arg] : List Int)).length) c1091) rfl (by kernel_rfl) (key_int (by kernel_rfl)) (by kernel_rfl) (by kernel_rfl) (by kernel_rfl) rfl hI (by decide) rfl mk_row ?_)
            clear hI
            intro _ hI
            replace hI := hI.mapback 0 (mput m715 ((idx ((idx a1.Txns a2).Ops) x716).Key) ((mat m715 ((idx ((idx a1.Txns a2).Ops) x716).Key)) ++ ([(idx ((idx a1.Txns a2).Ops) x716).Arg] : List Int))) rfl mhole_put
            refine ⟨(hI.pk [1, 2, 3, 4]), ?_⟩
            refine hd ?_
            refine go_exit rfl ?_
            exact hJ945 (l709, l712, mput m715 ((idx ((idx a1.Txns a2).Ops) x716).Key) ((mat m715 ((idx ((idx a1.Txns a2).Ops) x716).Key)) ++ ([(idx ((idx a1.Txns a2).Ops) x716).Arg] : List Int))) _ _ ⟨_, A710, c711, A713, c714, at_, hI.pick [1, 2, 3, 0] (by decide) rfl⟩ H
          · refine (e_partsS 22 2 1 _ _ _ #[vI ((idx ((idx a1.Txns a2).Ops) x716).Arg)] [vI ((idx ((idx a1.Txns a2).Ops) x716).Arg)] rfl rfl rfl rfl (by kernel_rfl) (by kernel_rfl) (by kernel_rfl) (by kernel_rfl) hI ?_)
            clear hI
            intro b1092 _ hs1093 hI
            refine ⟨(hI.pk [0, 1, 2, 4]), ?_⟩
            refine ho (n := 2) 6 rfl (e_lookupO (ek := (fun x : Int => vI x)) (kt := (tInt .i64)) (e := 2) 100 3 22 _ _ false 3 b36 m715 ((idx ((idx a1.Txns a2).Ops) x716).Key) rfl (by kernel_rfl) (key_int (by kernel_rfl)) (fun _ => by kernel_rfl) (by kernel_rfl) (by kernel_rfl) hI rfl ?_)
            intro A1099 c1100 hr1101 hl1102 hat1103
            replace hI := hI.pin 3 rfl hat1103
            refine ⟨(hI.pk [0, 1, 2, 4]), ?_⟩
            replace hI := hI.takeP 3 rfl
            refine ho (n := 1) 10 rfl (e_append (tInt .i64) 22 0 2 _ _ _ _ A1099 ((mat m715 ((idx ((idx a1.Txns a2).Ops) x716).Key)).length) c1100 (mat m715 ((idx ((idx a1.Txns a2).Ops) x716).Key)) ([(idx ((idx a1.Txns a2).Ops) x716).Arg] : List Int) b1092 0 1 1 [vI ((idx ((idx a1.Txns a2).Ops) x716).Arg)] 0 [] [1, 2, 3, 4, 5, 6] [] [.blk b0z 75 [vS A710 l709.length c711, vS A713 l712.length c714], .row kAsk 51 A710 l709.length c711 l709, .row kSpot 53 A713 l712.length c714 l712, mapO (fun x : Int => vI x) (tOpt (tSlice 2 (tInt .i64))) b36 (mhole m715 ((idx ((idx a1.Txns a2).Ops) x716).Key) [vS A1099 (mat m715 ((idx ((idx a1.Txns a2).Ops) x716).Key)).length c1100]), .blk b967 63 [vI ((idx ((idx a1.Txns a2).Ops) x716).Kind), vI ((idx ((idx a1.Txns a2).Ops) x716).Key), vI ((idx ((idx a1.Txns a2).Ops) x716).Arg), vB ((idx ((idx a1.Txns a2).Ops) x716).Got), vS A963 (((idx ((idx a1.Txns a2).Ops) x716).Vals).length) c964], .blk b1092 2 [vI ((idx ((idx a1.Txns a2).Ops) x716).Arg)]] rfl (by kernel_rfl) (by kernel_rfl) rfl rfl rfl rfl rfl (by kernel_rfl) hI (by decide) rfl rfl rfl (hI.grp 6 rfl) g1069 (mks_cons (mk_flat (k := (tInt .i64)) ((idx ((idx a1.Txns a2).Ops) x716).Arg) [vI ((idx ((idx a1.Txns a2).Ops) x716).Arg)] rfl) mks_nil) ?_)
            clear hI
            intro A1106 c1107 _ hI
            replace hI := hI.pick (L' := [.row (tInt .i64) 2 A1106 (((mat m715 ((idx ((idx a1.Txns a2).Ops) x716).Key)) ++ ([(idx ((idx a1.Txns a2).Ops) x716).Arg] : List Int)).length) c1107 ((mat m715 ((idx ((idx a1.Txns a2).Ops) x716).Key)) ++ ([(idx ((idx a1.Txns a2).Ops) x716).Arg] : List Int)), .blk b0z 75 [vS A710 l709.length c711, vS A713 l712.length c714], .row kAsk 51 A710 l709.length c711 l709, .row kSpot 53 A713 l712.length c714 l712, mapO (fun x : Int => vI x) (tOpt (tSlice 2 (tInt .i64))) b36 (mhole m715 ((idx ((idx a1.Txns a2).Ops) x716).Key) [vS A1099 (mat m715 ((idx ((idx a1.Txns a2).Ops) x716).Key)).length c1100]), .blk b967 63 [vI ((idx ((idx a1.Txns a2).Ops) x716).Kind), vI ((idx ((idx a1.Txns a2).Ops) x716).Key), vI ((idx ((idx a1.Txns a2).Ops) x716).Arg), vB ((idx ((idx a1.Txns a2).Ops) x716).Got), vS A963 (((idx ((idx a1.Txns a2).Ops) x716).Vals).length) c964]]) [0, 1, 2, 3, 4, 5] (by decide) rfl
            refine ⟨(hI.pk [1, 2, 3, 5]), ?_⟩
            refine ho (n := 0) 11 rfl (e_mapputO (kv := tOpt (tSlice 2 (tInt .i64))) (ek := (fun x : Int => vI x)) 100 3 22 _ _ _ 4 [0] [1, 2, 3, 5] [.row (tInt .i64) 2 A1106 (((mat m715 ((idx ((idx a1.Txns a2).Ops) x716).Key)) ++ ([(idx ((idx a1.Txns a2).Ops) x716).Arg] : List Int)).length) c1107 ((mat m715 ((idx ((idx a1.Txns a2).Ops) x716).Key)) ++ ([(idx ((idx a1.Txns a2).Ops) x716).Arg] : List Int))] [.blk b0z 75 [vS A710 l709.length c711, vS A713 l712.length c714], .row kAsk 51 A710 l709.length c711 l709, .row kSpot 53 A713 l712.length c714 l712, .blk b967 63 [vI ((idx ((idx a1.Txns a2).Ops) x716).Kind), vI ((idx ((idx a1.Txns a2).Ops) x716).Key), vI ((idx ((idx a1.Txns a2).Ops) x716).Arg), vB ((idx ((idx a1.Txns a2).Ops) x716).Got), vS A963 (((idx ((idx a1.Txns a2).Ops) x716).Vals).length) c964]] b36 (mhole m715 ((idx ((idx a1.Txns a2).Ops) x716).Key) [vS A1099 (mat m715 ((idx ((idx a1.Txns a2).Ops) x716).Key)).length c1100]) ((idx ((idx a1.Txns a2).Ops) x716).Key) (Sum.inl ((mat m715 ((idx ((idx a1.Txns a2).Ops) x716).Key)) ++ ([(idx ((idx a1.Txns a2).Ops) x716).Arg] : List Int))) (vS A1106 (((mat m715 ((idx ((idx a1.Txns a2).Ops) x716).Key)) ++ ([(idx ((idx a1.Txns a2).Ops) x716).Arg] : List Int)).length) c1107) rfl (by kernel_rfl) (key_int (by kernel_rfl)) (by kernel_rfl) (by kernel_rfl) (by kernel_rfl) rfl hI (by decide) rfl mk_row ?_)
            clear hI
            intro _ hI
            replace hI := hI.mapback 0 (mput m715 ((idx ((idx a1.Txns a2).Ops) x716).Key) ((mat m715 ((idx ((idx a1.Txns a2).Ops) x716).Key)) ++ ([(idx ((idx a1.Txns a2).Ops) x716).Arg] : List Int))) rfl mhole_put
            refine ⟨(hI.pk [1, 2, 3, 4]), ?_⟩
            refine hd ?_
            refine go_exit rfl ?_
            exact hJ945 (l709, l712, mput m715 ((idx ((idx a1.Txns a2).Ops) x716).Key) ((mat m715 ((idx ((idx a1.Txns a2).Ops) x716).Key)) ++ ([(idx ((idx a1.Txns a2).Ops) x716).Arg] : List Int))) _ _ ⟨_, A710, c711, A713, c714, at_, hI.pick [1, 2, 3, 0] (by decide) rfl⟩ H
        · refine ge hc1015 (go_skip (go_seq (r_in (bg 0 [.p, .l 0 4] (gA (hI.grp 4 rfl)) ?_))))
          replace H := bind_some H
          obtain ⟨y1112, hy1113, H⟩ := H
          refine oe 2 rfl ?_
          refine ec (enter52 _) (slices_Clone_int64zcalls A963 c964 ((idx ((idx a1.Txns a2).Ops) x716).Vals) (memOf _) _ (Inv.start _) (hI.rd hr965) hl966 _ hy1113) ?_
          rintro _ _ ⟨A1114, c1115, rfl, hI'⟩
          replace hI := hI.call0 hI'
          clear hI'
          refine ⟨_, rfl, ?_⟩
          refine bp 3 2 (ro ?_)
          refine go_seq_join (o := o1) (fun (l1129, b1132) f w => ∃ (j : Nat → Value) (A1130 : Option Addr) (c1131 : Nat), f = updL j [(0, vP b0z 0), (2, vI a2), (6, .map (some b36)), (7, vI x716), (8, vP b967 0), (9, vS A1130 l1129.length c1131), (10, vB b1132), (25, vS (some ⟨b961, q962, none⟩) (((idx a1.Txns a2).Ops).length) c48), (26, vI (((idx a1.Txns a2).Ops).length : Int)), (27, vI x716)] ∧ Inv M w [.blk b0z 75 [vS A710 l709.length c711, vS A713 l712.length c714], .row kAsk 51 A710 l709.length c711 l709, .row kSpot 53 A713 l712.length c714 l712, mapO (fun x : Int => vI x) (tSlice 2 (tInt .i64)) b36 m715, .blk b967 63 [vI ((idx ((idx a1.Txns a2).Ops) x716).Kind), vI ((idx ((idx a1.Txns a2).Ops) x716).Key), vI ((idx ((idx a1.Txns a2).Ops) x716).Arg), vB ((idx ((idx a1.Txns a2).Ops) x716).Got), vS A963 (((idx ((idx a1.Txns a2).Ops) x716).Vals).length) c964], .row (tInt .i64) 2 A1130 l1129.length c1131 l1129]) (fun (l1129, b1132) => local_found_look.j3 a1 a2 l709 l712 m715 x716 l1129 b1132) ?_ (fun hJ1133 => ?_)
          · clear H hI
            rintro ⟨l1129, b1132⟩ _ _ ⟨_, A1130, c1131, rfl, hI⟩ H
            refine go_seq (go_seq (rp 2 ?_))
            replace H := cond_some H
            rcases H with ⟨hc1140, H⟩ | ⟨hc1140, H⟩
            · refine gt hc1140 (go_seq (r_in (bg 0 [.p, .p, .p, .p, .l 0 1, .p, .p, .p] (gA (hI.grp 0 rfl)) (oe 8 rfl ?_))))
              refine e_partsS 43 53 1 _ _ _ #[vI a2, vI x716] [vI a2, vI x716] rfl rfl rfl rfl (by kernel_rfl) (by kernel_rfl) (by kernel_rfl) (by kernel_rfl) hI ?_
              clear hI
              intro b1146 _ hs1147 hI
              replace H := must_some H
              obtain ⟨g1148, H⟩ := H
              refine oe 9 rfl ?_
              refine e_append kSpot 43 0 53 _ _ _ _ A713 l712.length c714 l712 ([(⟨a2, x716⟩ : Spot)] : List Spot) b1146 0 1 1 [vI a2, vI x716] 2 [] [0, 1, 3, 4, 5, 6] [] [.blk b0z 75 [vS A710 l709.length c711, vS A713 l712.length c714], .row kAsk 51 A710 l709.length c711 l709, mapO (fun x : Int => vI x) (tSlice 2 (tInt .i64)) b36 m715, .blk b967 63 [vI ((idx ((idx a1.Txns a2).Ops) x716).Kind), vI ((idx ((idx a1.Txns a2).Ops) x716).Key), vI ((idx ((idx a1.Txns a2).Ops) x716).Arg), vB ((idx ((idx a1.Txns a2).Ops) x716).Got), vS A963 (((idx ((idx a1.Txns a2).Ops) x716).Vals).length) c964], .row (tInt .i64) 2 A1130 l1129.length c1131 l1129, .blk b1146 53 [vI a2, vI x716]] rfl (by kernel_rfl) (by kernel_rfl) rfl rfl rfl rfl rfl (by kernel_rfl) hI (by decide) rfl rfl rfl (hI.grp 6 rfl) g1148 (mks_cons (mk_flat (k := kSpot) (⟨a2, x716⟩ : Spot) [vI a2, vI x716] rfl) mks_nil) ?_
              clear hI
              intro A1149 c1150 _ hI
              replace hI := hI.pick (L' := [.row kSpot 53 A1149 ((l712 ++ ([(⟨a2, x716⟩ : Spot)] : List Spot)).length) c1150 (l712 ++ ([(⟨a2, x716⟩ : Spot)] : List Spot)), .blk b0z 75 [vS A710 l709.length c711, vS A713 l712.length c714], .row kAsk 51 A710 l709.length c711 l709, mapO (fun x : Int => vI x) (tSlice 2 (tInt .i64)) b36 m715, .blk b967 63 [vI ((idx ((idx a1.Txns a2).Ops) x716).Kind), vI ((idx ((idx a1.Txns a2).Ops) x716).Key), vI ((idx ((idx a1.Txns a2).Ops) x716).Arg), vB ((idx ((idx a1.Txns a2).Ops) x716).Got), vS A963 (((idx ((idx a1.Txns a2).Ops) x716).Vals).length) c964], .row (tInt .i64) 2 A1130 l1129.length c1131 l1129]) [0, 1, 2, 3, 4, 5] (by decide) rfl
              refine bp 10 2 (oe 12 rfl ?_)
              refine e_store 43 _ _ 1 b0z 75 [vS A710 l709.length c711, vS A713 l712.length c714] [vS A710 l709.length c711, vS A1149 ((l712 ++ ([(⟨a2, x716⟩ : Spot)] : List Spot)).length) c1150] 1 (vS A1149 ((l712 ++ ([(⟨a2, x716⟩ : Spot)] : List Spot)).length) c1150) rfl (by kernel_rfl) (by kernel_rfl) (by kernel_rfl) (by kernel_rfl) hI rfl (by kernel_rfl) (by kernel_rfl) ?_
              clear hI
              intro _ hI
              refine ro ?_
              refine go_exit rfl ?_
              exact hJ945 (l709, l712 ++ ([(⟨a2, x716⟩ : Spot)] : List Spot), m715) _ _ ⟨_, A710, c711, A1149, c1150, at_, hI.pick [1, 2, 0, 3] (by decide) rfl⟩ H
            · refine ge hc1140 (go_skip ?_)
              replace H := must_some H
              obtain ⟨g1153, H⟩ := H
              refine go_held (fun w => Inv M w [.row kSpot 53 A713 l712.length c714 l712, mapO (fun x : Int => vI x) (tSlice 2 (tInt .i64)) b36 m715, .blk b967 63 [vI ((idx ((idx a1.Txns a2).Ops) x716).Kind), vI ((idx ((idx a1.Txns a2).Ops) x716).Key), vI ((idx ((idx a1.Txns a2).Ops) x716).Arg), vB ((idx ((idx a1.Txns a2).Ops) x716).Got), vS A963 (((idx ((idx a1.Txns a2).Ops) x716).Vals).length) c964]]) (by kernel_rfl) ?_
              replace hI := hI.drew'
              refine hg (n := 6) [(0, .p), (1, .p), (2, .p), (3, .p), (5, .p), (6, .p), (7, .p), (8, .l 0 1), (9, .p), (10, .p)] (fun _ hS => (gA (hS.grp 2 rfl))) (hI.pk [2, 3, 4]) ?_
              refine held_each (n := 5) [4, 11] (by simp) (by kernel_rfl) ⟨⟨_, rfl, by kernel_rfl, ?_⟩, ⟨_, rfl, by kernel_rfl, ?_⟩, trivial⟩
              · refine (e_read (ops := #[]) [(b0z, 0, [vS A710 l709.length c711, vS A713 l712.length c714])] (.l 0 0) (vS A710 l709.length c711) [] ⟨(hI.grp 0 rfl), trivial⟩ trivial (by kernel_rfl) (by kernel_rfl) (by kernel_rfl) ⟨(hI.pk [2, 3, 4]), ?_⟩)
                refine ho (n := 4) 11 rfl (e_partsS 42 51 1 _ _ _ #[vI a2, vI x716, vI ((idx ((idx a1.Txns a2).Ops) x716).Key), vS A1130 l1129.length c1131] [vI a2, vI x716, vI ((idx ((idx a1.Txns a2).Ops) x716).Key), vS A1130 l1129.length c1131] rfl rfl rfl rfl (by kernel_rfl) (by kernel_rfl) (by kernel_rfl) (by kernel_rfl) hI ?_)
                clear hI
                intro b1160 _ hs1161 hI
                refine ⟨(hI.pk [2, 3, 4]), ?_⟩
                refine ho (n := 3) 12 rfl (e_append kAsk 42 0 51 _ _ _ _ A710 l709.length c711 l709 ([(⟨a2, x716, (idx ((idx a1.Txns a2).Ops) x716).Key, l1129⟩ : Ask)] : List Ask) b1160 0 1 1 [vI a2, vI x716, vI ((idx ((idx a1.Txns a2).Ops) x716).Key), vS A1130 l1129.length c1131] 1 [5] [0, 2, 3, 4, 6] [.row (tInt .i64) 2 A1130 l1129.length c1131 l1129] [.blk b0z 75 [vS A710 l709.length c711, vS A713 l712.length c714], .row kSpot 53 A713 l712.length c714 l712, mapO (fun x : Int => vI x) (tSlice 2 (tInt .i64)) b36 m715, .blk b967 63 [vI ((idx ((idx a1.Txns a2).Ops) x716).Kind), vI ((idx ((idx a1.Txns a2).Ops) x716).Key), vI ((idx ((idx a1.Txns a2).Ops) x716).Arg), vB ((idx ((idx a1.Txns a2).Ops) x716).Got), vS A963 (((idx ((idx a1.Txns a2).Ops) x716).Vals).length) c964], .blk b1160 51 [vI a2, vI x716, vI ((idx ((idx a1.Txns a2).Ops) x716).Key), vS A1130 l1129.length c1131]] rfl (by kernel_rfl) (by kernel_rfl) rfl rfl rfl rfl rfl (by kernel_rfl) hI (by decide) rfl rfl rfl (hI.grp 6 rfl) g1153 (mks_cons (mk_iso (g := fun g : Ask => (g.Txn, g.Place, g.Key, g.Base)) (x := (⟨a2, x716, (idx ((idx a1.Txns a2).Ops) x716).Key, l1129⟩ : Ask)) (mk_pair (mk_flat (k := (tInt .i64)) a2 [vI a2] rfl) (mk_pair (mk_flat (k := (tInt .i64)) x716 [vI x716] rfl) (mk_pair (mk_flat (k := (tInt .i64)) ((idx ((idx a1.Txns a2).Ops) x716).Key) [vI ((idx ((idx a1.Txns a2).Ops) x716).Key)] rfl) mk_row)))) mks_nil) ?_)
                clear hI
                intro A1164 c1165 _ hI
                replace hI := hI.pick (L' := [.row kAsk 51 A1164 ((l709 ++ ([(⟨a2, x716, (idx ((idx a1.Txns a2).Ops) x716).Key, l1129⟩ : Ask)] : List Ask)).length) c1165 (l709 ++ ([(⟨a2, x716, (idx ((idx a1.Txns a2).Ops) x716).Key, l1129⟩ : Ask)] : List Ask)), .blk b0z 75 [vS A710 l709.length c711, vS A713 l712.length c714], .row kSpot 53 A713 l712.length c714 l712, mapO (fun x : Int => vI x) (tSlice 2 (tInt .i64)) b36 m715, .blk b967 63 [vI ((idx ((idx a1.Txns a2).Ops) x716).Kind), vI ((idx ((idx a1.Txns a2).Ops) x716).Key), vI ((idx ((idx a1.Txns a2).Ops) x716).Arg), vB ((idx ((idx a1.Txns a2).Ops) x716).Got), vS A963 (((idx ((idx a1.Txns a2).Ops) x716).Vals).length) c964]]) [0, 1, 2, 3, 4] (by decide) rfl
                refine ⟨(hI.pk [2, 3, 4]), ?_⟩
                refine hg (n := 1) [(13, .p), (14, .p)] (fun _ hS => gO) (hI.pk [2, 3, 4]) ?_
                refine ho (n := 0) 15 rfl (e_store 42 _ _ 1 b0z 75 [vS A710 l709.length c711, vS A713 l712.length c714] [vS A1164 ((l709 ++ ([(⟨a2, x716, (idx ((idx a1.Txns a2).Ops) x716).Key, l1129⟩ : Ask)] : List Ask)).length) c1165, vS A713 l712.length c714] 0 (vS A1164 ((l709 ++ ([(⟨a2, x716, (idx ((idx a1.Txns a2).Ops) x716).Key, l1129⟩ : Ask)] : List Ask)).length) c1165) rfl (by kernel_rfl) (by kernel_rfl) (by kernel_rfl) (by kernel_rfl) hI rfl (by kernel_rfl) (by kernel_rfl) ?_)
                clear hI
                intro _ hI
                refine ⟨(hI.pk [2, 3, 4]), ?_⟩
                refine hd (go_inBlock ?_)
                exact hJ945 (l709 ++ ([(⟨a2, x716, (idx ((idx a1.Txns a2).Ops) x716).Key, l1129⟩ : Ask)] : List Ask), l712, m715) _ _ ⟨_, A1164, c1165, A713, c714, at_, hI.pick [1, 0, 2, 3] (by decide) rfl⟩ H
              · refine (e_partsS 42 51 1 _ _ _ #[vI a2, vI x716, vI ((idx ((idx a1.Txns a2).Ops) x716).Key), vS A1130 l1129.length c1131] [vI a2, vI x716, vI ((idx ((idx a1.Txns a2).Ops) x716).Key), vS A1130 l1129.length c1131] rfl rfl rfl rfl (by kernel_rfl) (by kernel_rfl) (by kernel_rfl) (by kernel_rfl) hI ?_)
                clear hI
                intro b1166 _ hs1167 hI
                refine ⟨(hI.pk [2, 3, 4]), ?_⟩
                refine ho (n := 4) 4 rfl (e_read (ops := #[]) [(b0z, 0, [vS A710 l709.length c711, vS A713 l712.length c714])] (.l 0 0) (vS A710 l709.length c711) [] ⟨(hI.grp 0 rfl), trivial⟩ trivial (by kernel_rfl) (by kernel_rfl) (by kernel_rfl) ⟨(hI.pk [2, 3, 4]), ?_⟩)
                refine ho (n := 3) 12 rfl (e_append kAsk 42 0 51 _ _ _ _ A710 l709.length c711 l709 ([(⟨a2, x716, (idx ((idx a1.Txns a2).Ops) x716).Key, l1129⟩ : Ask)] : List Ask) b1166 0 1 1 [vI a2, vI x716, vI ((idx ((idx a1.Txns a2).Ops) x716).Key), vS A1130 l1129.length c1131] 1 [5] [0, 2, 3, 4, 6] [.row (tInt .i64) 2 A1130 l1129.length c1131 l1129] [.blk b0z 75 [vS A710 l709.length c711, vS A713 l712.length c714], .row kSpot 53 A713 l712.length c714 l712, mapO (fun x : Int => vI x) (tSlice 2 (tInt .i64)) b36 m715, .blk b967 63 [vI ((idx ((idx a1.Txns a2).Ops) x716).Kind), vI ((idx ((idx a1.Txns a2).Ops) x716).Key), vI ((idx ((idx a1.Txns a2).Ops) x716).Arg), vB ((idx ((idx a1.Txns a2).Ops) x716).Got), vS A963 (((idx ((idx a1.Txns a2).Ops) x716).Vals).length) c964], .blk b1166 51 [vI a2, vI x716, vI ((idx ((idx a1.Txns a2).Ops) x716).Key), vS A1130 l1129.length c1131]] rfl (by kernel_rfl) (by kernel_rfl) rfl rfl rfl rfl rfl (by kernel_rfl) hI (by decide) rfl rfl rfl (hI.grp 6 rfl) g1153 (mks_cons (mk_iso (g := fun g : Ask => (g.Txn, g.Place, g.Key, g.Base)) (x := (⟨a2, x716, (idx ((idx a1.Txns a2).Ops) x716).Key, l1129⟩ : Ask)) (mk_pair (mk_flat (k := (tInt .i64)) a2 [vI a2] rfl) (mk_pair (mk_flat (k := (tInt .i64)) x716 [vI x716] rfl) (mk_pair (mk_flat (k := (tInt .i64)) ((idx ((idx a1.Txns a2).Ops) x716).Key) [vI ((idx ((idx a1.Txns a2).Ops) x716).Key)] rfl) mk_row)))) mks_nil) ?_)
                clear hI
                intro A1170 c1171 _ hI
                replace hI := hI.pick (L' := [.row kAsk 51 A1170 ((l709 ++ ([(⟨a2, x716, (idx ((idx a1.Txns a2).Ops) x716).Key, l1129⟩ : Ask)] : List Ask)).length) c1171 (l709 ++ ([(⟨a2, x716, (idx ((idx a1.Txns a2).Ops) x716).Key, l1129⟩ : Ask)] : List Ask)), .blk b0z 75 [vS A710 l709.length c711, vS A713 l712.length c714], .row kSpot 53 A713 l712.length c714 l712, mapO (fun x : Int => vI x) (tSlice 2 (tInt .i64)) b36 m715, .blk b967 63 [vI ((idx ((idx a1.Txns a2).Ops) x716).Kind), vI ((idx ((idx a1.Txns a2).Ops) x716).Key), vI ((idx ((idx a1.Txns a2).Ops) x716).Arg), vB ((idx ((idx a1.Txns a2).Ops) x716).Got), vS A963 (((idx ((idx a1.Txns a2).Ops) x716).Vals).length) c964]]) [0, 1, 2, 3, 4] (by decide) rfl
                refine ⟨(hI.pk [2, 3, 4]), ?_⟩
                refine hg (n := 1) [(13, .p), (14, .p)] (fun _ hS => gO) (hI.pk [2, 3, 4]) ?_
                refine ho (n := 0) 15 rfl (e_store 42 _ _ 1 b0z 75 [vS A710 l709.length c711, vS A713 l712.length c714] [vS A1170 ((l709 ++ ([(⟨a2, x716, (idx ((idx a1.Txns a2).Ops) x716).Key, l1129⟩ : Ask)] : List Ask)).length) c1171, vS A713 l712.length c714] 0 (vS A1170 ((l709 ++ ([(⟨a2, x716, (idx ((idx a1.Txns a2).Ops) x716).Key, l1129⟩ : Ask)] : List Ask)).length) c1171) rfl (by kernel_rfl) (by kernel_rfl) (by kernel_rfl) (by kernel_rfl) hI rfl (by kernel_rfl) (by kernel_rfl) ?_)
                clear hI
                intro _ hI
                refine ⟨(hI.pk [2, 3, 4]), ?_⟩
                refine hd (go_inBlock ?_)
                exact hJ945 (l709 ++ ([(⟨a2, x716, (idx ((idx a1.Txns a2).Ops) x716).Key, l1129⟩ : Ask)] : List Ask), l712, m715) _ _ ⟨_, A1170, c1171, A713, c714, at_, hI.pick [1, 0, 2, 3] (by decide) rfl⟩ H
          · refine go_seq (r_in (bg 0 [.p, .p, .l 0 1] (gA (hI.grp 4 rfl)) (oe 3 rfl ?_)))
            refine e_lookupO (ek := (fun x : Int => vI x)) (kt := (tInt .i64)) (e := 2) 100 3 22 _ _ false 3 b36 m715 ((idx ((idx a1.Txns a2).Ops) x716).Key) rfl (by kernel_rfl) (key_int (by kernel_rfl)) (fun _ => by kernel_rfl) (by kernel_rfl) (by kernel_rfl) hI rfl ?_
            intro A1177 c1178 hr1179 hl1180 hat1181
            replace hI := hI.pin 3 rfl hat1181
            refine bp 4 1 (ro (go_seq (rp 3 ?_)))
            replace H := cond_some H
            rcases H with ⟨hc1182, H⟩ | ⟨hc1182, H⟩
            · refine gt hc1182 (go_seq (r_in (bg 0 [.p, .l 0 0, .p, .p, .l 0 4, .p] (gA (hI.grp 4 rfl)) ?_)))
              replace H := bind_some H
              obtain ⟨y1187, hy1188, H⟩ := H
              refine oe 6 rfl ?_
              refine ec (enter16 _) (state_Before_calls (w64 (((idx ((idx a1.Txns a2).Ops) x716).Kind) - 4)) A963 c964 ((idx ((idx a1.Txns a2).Ops) x716).Vals) A1177 c1178 (mat m715 ((idx ((idx a1.Txns a2).Ops) x716).Key)) (memOf _) _ (Inv.start _) (hI.rd hr965) hl966 (hI.pinrd 3 rfl) (hI.pinle 3 rfl) _ hy1188) ?_
              rintro _ _ ⟨A1189, c1190, rfl, hI'⟩
              replace hI := hI.call0 hI'
              clear hI'
              refine ⟨_, rfl, ?_⟩
              refine bp 7 5 (ro ?_)
              refine go_seq_join (o := o1) (fun b1192 f w => ∃ (j : Nat → Value), f = updL j [(0, vP b0z 0), (2, vI a2), (6, .map (some b36)), (7, vI x716), (8, vP b967 0), (9, vS A1189 y1187.1.length c1190), (10, vB y1187.2), (25, vS (some ⟨b961, q962, none⟩) (((idx a1.Txns a2).Ops).length) c48), (26, vI (((idx a1.Txns a2).Ops).length : Int)), (27, vI x716), (71, vB b1192)] ∧ Inv M w [.blk b0z 75 [vS A710 l709.length c711, vS A713 l712.length c714], .row kAsk 51 A710 l709.length c711 l709, .row kSpot 53 A713 l712.length c714 l712, mapPin (fun x : Int => vI x) (tInt .i64) 2 b36 m715 ((idx ((idx a1.Txns a2).Ops) x716).Key) A1177 c1178, .blk b967 63 [vI ((idx ((idx a1.Txns a2).Ops) x716).Kind), vI ((idx ((idx a1.Txns a2).Ops) x716).Key), vI ((idx ((idx a1.Txns a2).Ops) x716).Arg), vB ((idx ((idx a1.Txns a2).Ops) x716).Got), vS A963 (((idx ((idx a1.Txns a2).Ops) x716).Vals).length) c964], .row (tInt .i64) 2 A1189 y1187.1.length c1190 y1187.1]) (fun b1192 => local_found_look.j4 a1 a2 l709 l712 m715 x716 y1187 b1192) ?_ (fun hJ1193 => ?_)
              · clear H hI
                rintro b1192 _ _ ⟨_, rfl, hI⟩ H
                replace H := cond_some H
                rcases H with ⟨hc1194, H⟩ | ⟨hc1194, H⟩
                · refine gt hc1194 ?_
                  refine go_exit rfl ?_
                  replace hI := hI.unpin 3 rfl
                  exact hJ945 (l709, l712, m715) _ _ ⟨_, A710, c711, A713, c714, at_, hI.pick [0, 1, 2, 3] (by decide) rfl⟩ H
                · refine ge hc1194 (go_skip ?_)
                  replace hI := hI.unpin 3 rfl
                  exact hJ1133 (y1187.1, y1187.2) _ _ ⟨_, A1189, c1190, at_, hI⟩ H
              · refine r_in ?_
                replace H := cond_some H
                rcases H with ⟨hc1195, H⟩ | ⟨hc1195, H⟩
                · refine bx 0 [.p, .c true, .p, .l 0 0, .p, .p] (gA (hI.grp 4 rfl)) _ (bZ (bndEq hc1195)) (ro ?_)
                  exact hJ1193 ((idx ((idx a1.Txns a2).Ops) x716).Kind == 5) _ _ ⟨_, at_, hI.pick [0, 1, 2, 3, 4, 6] (by decide) rfl⟩ H
                · refine bx 0 [.p, .c false, .p, .p, .p, .p] gO _ (bZ (bndEq hc1195)) (ro ?_)
                  exact hJ1193 false _ _ ⟨_, at_, hI.pick [0, 1, 2, 3, 4, 6] (by decide) rfl⟩ H
            · refine ge hc1182 (go_skip ?_)
              replace hI := hI.unpin 3 rfl
              exact hJ1133 (y1112, true) _ _ ⟨_, A1114, c1115, at_, hI⟩ H
    · refine ge hc718 ?_
      refine go_exit rfl ?_
      replace H := out_some H
      obtain ⟨_, H, he1⟩ := H
      have he := (hout1 _ he1).symm
      subst he
      replace H := Option.some.inj H
      subst H
      exact go_finish (.tuple #[]) Try.func42 (by kernel_rfl) ⟨A710, c711, A713, c714, rfl, hI.pick [0, 1, 2] (by decide) rfl⟩

/-! ### local_Look -/
theorem enter28 (a : Array Value) : Sem.pureRun Try.prog (callFunc 28 a) = some (.enter 28 a) := by kernel_rfl
theorem local_Look_calls (a0 : History) (A0z0 : Option Addr) (c0z0 : Nat) (A0z1 : Option Addr) (c0z1 : Nat) (a1 : Int) (M : Mem) (w : World) (hI : Inv M w []) (hr0z0 : rdS tStr M.blk A0z0 a0.Keys) (hl0z0 : a0.Keys.length ≤ c0z0) (hr0z1 : rdS kTxn M.blk A0z1 a0.Txns) (hl0z1 : a0.Txns.length ≤ c0z1) (r : List Ask × List Spot × Int) (H : local_Look a0 a1 = some r) :
    Calls Try.prog 28 #[.agg #[vS A0z0 a0.Keys.length c0z0, vS A0z1 a0.Txns.length c0z1], vI a1] w fun e w' => ∃ (A45 : Option Addr), ∃ (c46 : Nat), ∃ (A47 : Option Addr), ∃ (c48 : Nat), e = .returned (.tuple #[vS A45 r.1.length c46, vS A47 r.2.1.length c48, vI r.2.2]) ∧ Inv M w' [.row kAsk 51 A45 r.1.length c46 r.1, .row kSpot 53 A47 r.2.1.length c48 r.2.1] := by
  refine cg Try.func28 ?_
  intro cs
  unfold local_Look at H
  refine go_seq (r_in (oe 0 rfl ?_))
  refine e_box 40 _ (.agg #[vS A0z0 a0.Keys.length c0z0, vS A0z1 a0.Txns.length c0z1]) [vS A0z0 a0.Keys.length c0z0, vS A0z1 a0.Txns.length c0z1] rfl (by kernel_rfl) rfl hI ?_
  clear hI
  intro b2 _ hI
  refine bp 1 3 (ro (go_seq (go_seq (r_in (bg 0 [.l 0 0] (gA (hI.grp 0 rfl)) ?_)))))
  replace H := bind_some H
  obtain ⟨y11, hy12, H⟩ := H
  refine oe 1 rfl ?_
  refine ec (enter41 _) (index_Check_calls a0 A0z0 c0z0 A0z1 c0z1 (memOf _) _ (Inv.start _) (hI.rd hr0z0) hl0z0 (hI.rd hr0z1) hl0z1 _ hy12) ?_
  rintro _ _ ⟨rfl, hI'⟩
  replace hI := hI.call0 hI'
  clear hI'
  refine ⟨_, rfl, ?_⟩
  refine bp 2 1 (ro ?_)
  refine go_seq_join (o := r) (fun b15 f w => ∃ (j : Nat → Value), f = updL j [(1, vI a1), (2, vP b2 0), (23, vB b15)] ∧ Inv M w [.blk b2 40 [vS A0z0 a0.Keys.length c0z0, vS A0z1 a0.Txns.length c0z1]]) (fun b15 => local_Look.j1 a0 a1 b15) ?_ (fun hJ16 => ?_)
  · clear H hI
    rintro b15 _ _ ⟨_, rfl, hI⟩ H
    replace H := cond_some H
    rcases H with ⟨hc17, H⟩ | ⟨hc17, H⟩
    · refine gt hc17 (go_seq (rp 3 ?_))
      replace H := Option.some.inj H
      subst H
      exact gr Try.func28 ⟨none, 0, none, 0, rfl, ((hI.nilrow kAsk 51).nilrow kSpot 53).pick [1, 2] (by decide) rfl⟩
    · refine ge hc17 (go_skip (go_seq (r_in (oe 0 rfl ?_))))
      refine e_alloc 75 (.agg #[vS none 0 0, vS none 0 0]) [vS none 0 0, vS none 0 0] rfl (by kernel_rfl) rfl hI ?_
      clear hI
      intro b19 _ hI
      refine ro (go_seq (r_in (bg 0 [.l 0 0, .p] (gA (hI.grp 0 rfl)) ?_)))
      replace H := bind_some H
      obtain ⟨y36, hy37, H⟩ := H
      replace hI := hI.nilrow kAsk 51
      replace hI := hI.nilrow kSpot 53
      obtain ⟨M31, hJ32, hs33, hro34, hback35⟩ := hI.call (R := [.blk b19 75 [vS none (([] : List Ask).length) 0, vS none (([] : List Spot).length) 0], .row kAsk 51 none (([] : List Ask).length) 0 ([] : List Ask), .row kSpot 53 none (([] : List Spot).length) 0 ([] : List Spot)]) (L0 := [.blk b2 40 [vS A0z0 a0.Keys.length c0z0, vS A0z1 a0.Txns.length c0z1]]) [1, 2, 3] [0] (by decide) rfl
      refine oe 2 rfl ?_
      refine ec (enter42 _) (local_found_look_calls b19 (⟨([] : List Ask), ([] : List Spot)⟩ : LocalFound) none 0 none 0 a0 A0z0 c0z0 A0z1 c0z1 a1 M31 _ hJ32 (rdS.mono hr0z0 hs33) hl0z0 (rdS.mono hr0z1 hs33) hl0z1 _ hy37) ?_
      rintro _ _ ⟨A38, c39, A40, c41, rfl, hI'⟩
      replace hI := hback35 _ _ hI'
      clear hI'
      refine ⟨_, rfl, ?_⟩
      refine ro (go_seq ?_)
      refine dg [.p, .l 0 0, .p, .l 0 1, .p, .p, .p] (gA (hI.grp 0 rfl)) hI ?_
      clear hI
      intro _ hI
      replace H := Option.some.inj H
      subst H
      exact gr Try.func28 ⟨A38, c39, A40, c41, rfl, hI.pick [1, 2] (by decide) rfl⟩
  · refine r_in ?_
    replace H := cond_some H
    rcases H with ⟨hc42, H⟩ | ⟨hc42, H⟩
    · refine bx 0 [.p, .p, .c true, .p, .p, .p, .p, .p, .p, .p, .p, .p, .p] gO _ (bZ (bndEq hc42)) (ro ?_)
      exact hJ16 true _ _ ⟨_, at_, hI⟩ H
    · replace H := cond_some H
      rcases H with ⟨hc43, H⟩ | ⟨hc43, H⟩
      · refine bx 0 [.p, .p, .c false, .p, .p, .p, .c true, .p, .p, .p, .p, .p, .p] gO _ (bC (bndEq hc42) (bZ (bndEq hc43))) (ro ?_)
        exact hJ16 true _ _ ⟨_, at_, hI⟩ H
      · refine bx 0 [.p, .p, .c false, .p, .p, .p, .c false, .p, .p, .l 0 1, .p, .p, .p] (gA (hI.grp 0 rfl)) _ (bC (bndEq hc42) (bZ (bndEq hc43))) (ro ?_)
        exact hJ16 (decide (a1 ≥ (a0.Txns.length : Int))) _ _ ⟨_, at_, hI⟩ H

/-! ### assizelaw09zalive -/
theorem enter26 (a : Array Value) : Sem.pureRun Try.prog (callFunc 26 a) = some (.enter 26 a) := by kernel_rfl
theorem assizelaw09zalive_calls  (M : Mem) (w : World) (hI : Inv M w []) (r : Bool) (H : assizelaw09zalive = some r) :
    Calls Try.prog 26 #[] w fun e w' => e = .returned (vB r) ∧ Inv M w' [] := by
  refine cg Try.func26 ?_
  intro cs
  unfold assizelaw09zalive at H
  refine go_seq (rp 1 (go_seq (r_in (oe 0 rfl ?_))))
  refine e_partsS 37 9 1 _ _ _ #[.string (⟨#[108]⟩ : ByteArray)] [.string (⟨#[108]⟩ : ByteArray)] rfl rfl rfl rfl (by kernel_rfl) (by kernel_rfl) (by kernel_rfl) (by kernel_rfl) hI ?_
  clear hI
  intro b12 _ hs13 hI
  replace hI := hI.asrow (k := tStr) (xs := ([(⟨#[108]⟩ : ByteArray)] : List ByteArray)) (cs := [.string (⟨#[108]⟩ : ByteArray)]) (R := []) (L' := []) 1 0 [] [] (by decide) rfl (mks_cons (mk_flat (k := tStr) (⟨#[108]⟩ : ByteArray) [.string (⟨#[108]⟩ : ByteArray)] rfl) mks_nil) rfl rfl (by kernel_rfl)
  refine bp 1 1 (oe 2 rfl ?_)
  refine e_partsS 22 2 2 _ _ _ #[vI 3, vI 5] [vI 3, vI 5] rfl rfl rfl rfl (by kernel_rfl) (by kernel_rfl) (by kernel_rfl) (by kernel_rfl) hI ?_
  clear hI
  intro b14 _ hs15 hI
  replace hI := hI.asrow (k := (tInt .i64)) (xs := ([3, 5] : List Int)) (cs := [vI 3, vI 5]) (R := []) (L' := [.row tStr 9 (some ⟨b12, 0, none⟩) 1 1 ([(⟨#[108]⟩ : ByteArray)] : List ByteArray)]) 2 1 [] [0] (by decide) rfl (mks_cons (mk_flat (k := (tInt .i64)) 3 [vI 3] rfl) (mks_cons (mk_flat (k := (tInt .i64)) 5 [vI 5] rfl) mks_nil)) rfl rfl (by kernel_rfl)
  refine bp 3 1 (oe 4 rfl ?_)
  refine e_partsS 22 2 2 _ _ _ #[vI 5, vI 3] [vI 5, vI 3] rfl rfl rfl rfl (by kernel_rfl) (by kernel_rfl) (by kernel_rfl) (by kernel_rfl) hI ?_
  clear hI
  intro b16 _ hs17 hI
  replace hI := hI.asrow (k := (tInt .i64)) (xs := ([5, 3] : List Int)) (cs := [vI 5, vI 3]) (R := []) (L' := [.row (tInt .i64) 2 (some ⟨b14, 0, none⟩) 2 2 ([3, 5] : List Int), .row tStr 9 (some ⟨b12, 0, none⟩) 1 1 ([(⟨#[108]⟩ : ByteArray)] : List ByteArray)]) 2 2 [] [0, 1] (by decide) rfl (mks_cons (mk_flat (k := (tInt .i64)) 5 [vI 5] rfl) (mks_cons (mk_flat (k := (tInt .i64)) 3 [vI 3] rfl) mks_nil)) rfl rfl (by kernel_rfl)
  refine bp 5 1 (oe 6 rfl ?_)
  refine e_partsS 59 63 3 _ _ _ #[vI 2, vI 0, vI 5, vB false, vS none 0 0, vI 6, vI 0, vI 0, vB true, vS (some ⟨b14, 0, none⟩) 2 2, vI 6, vI 0, vI 0, vB true, vS (some ⟨b16, 0, none⟩) 2 2] [vI 2, vI 0, vI 5, vB false, vS none 0 0, vI 6, vI 0, vI 0, vB true, vS (some ⟨b14, 0, none⟩) 2 2, vI 6, vI 0, vI 0, vB true, vS (some ⟨b16, 0, none⟩) 2 2] rfl rfl rfl rfl (by kernel_rfl) (by kernel_rfl) (by kernel_rfl) (by kernel_rfl) hI ?_
  clear hI
  intro b18 _ hs19 hI
  replace hI := hI.asrow (k := kOp) (xs := ([(⟨2, 0, 5, false, ([] : List Int)⟩ : Op), (⟨6, 0, 0, true, ([3, 5] : List Int)⟩ : Op), (⟨6, 0, 0, true, ([5, 3] : List Int)⟩ : Op)] : List Op)) (cs := [vI 2, vI 0, vI 5, vB false, vS none 0 0, vI 6, vI 0, vI 0, vB true, vS (some ⟨b14, 0, none⟩) 2 2, vI 6, vI 0, vI 0, vB true, vS (some ⟨b16, 0, none⟩) 2 2]) (R := [.row (tInt .i64) 2 (some ⟨b14, 0, none⟩) 2 2 ([3, 5] : List Int), .row (tInt .i64) 2 (some ⟨b16, 0, none⟩) 2 2 ([5, 3] : List Int)]) (L' := [.row tStr 9 (some ⟨b12, 0, none⟩) 1 1 ([(⟨#[108]⟩ : ByteArray)] : List ByteArray)]) 3 3 [1, 0] [2] (by decide) rfl (mks_cons (mk_iso (g := fun g : Op => (g.Kind, g.Key, g.Arg, g.Got, g.Vals)) (x := (⟨2, 0, 5, false, ([] : List Int)⟩ : Op)) (mk_pair (mk_flat (k := (tInt .i64)) 2 [vI 2] rfl) (mk_pair (mk_flat (k := (tInt .i64)) 0 [vI 0] rfl) (mk_pair (mk_flat (k := (tInt .i64)) 5 [vI 5] rfl) (mk_pair (mk_flat (k := tBool) false [vB false] rfl) mk_nil))))) (mks_cons (mk_iso (g := fun g : Op => (g.Kind, g.Key, g.Arg, g.Got, g.Vals)) (x := (⟨6, 0, 0, true, ([3, 5] : List Int)⟩ : Op)) (mk_pair (mk_flat (k := (tInt .i64)) 6 [vI 6] rfl) (mk_pair (mk_flat (k := (tInt .i64)) 0 [vI 0] rfl) (mk_pair (mk_flat (k := (tInt .i64)) 0 [vI 0] rfl) (mk_pair (mk_flat (k := tBool) true [vB true] rfl) mk_row))))) (mks_cons (mk_iso (g := fun g : Op => (g.Kind, g.Key, g.Arg, g.Got, g.Vals)) (x := (⟨6, 0, 0, true, ([5, 3] : List Int)⟩ : Op)) (mk_pair (mk_flat (k := (tInt .i64)) 6 [vI 6] rfl) (mk_pair (mk_flat (k := (tInt .i64)) 0 [vI 0] rfl) (mk_pair (mk_flat (k := (tInt .i64)) 0 [vI 0] rfl) (mk_pair (mk_flat (k := tBool) true [vB true] rfl) mk_row))))) mks_nil))) rfl rfl (by kernel_rfl)
  refine bp 7 1 (oe 8 rfl ?_)
  refine e_partsS 38 61 1 _ _ _ #[vI 0, vI 1, vI 0, vI 1, vS (some ⟨b18, 0, none⟩) 3 3] [vI 0, vI 1, vI 0, vI 1, vS (some ⟨b18, 0, none⟩) 3 3] rfl rfl rfl rfl (by kernel_rfl) (by kernel_rfl) (by kernel_rfl) (by kernel_rfl) hI ?_
  clear hI
  intro b20 _ hs21 hI
  replace hI := hI.asrow (k := kTxn) (xs := ([(⟨0, 1, 0, 1, ([(⟨2, 0, 5, false, ([] : List Int)⟩ : Op), (⟨6, 0, 0, true, ([3, 5] : List Int)⟩ : Op), (⟨6, 0, 0, true, ([5, 3] : List Int)⟩ : Op)] : List Op)⟩ : Txn)] : List Txn)) (cs := [vI 0, vI 1, vI 0, vI 1, vS (some ⟨b18, 0, none⟩) 3 3]) (R := [.row kOp 63 (some ⟨b18, 0, none⟩) 3 3 ([(⟨2, 0, 5, false, ([] : List Int)⟩ : Op), (⟨6, 0, 0, true, ([3, 5] : List Int)⟩ : Op), (⟨6, 0, 0, true, ([5, 3] : List Int)⟩ : Op)] : List Op)]) (L' := [.row tStr 9 (some ⟨b12, 0, none⟩) 1 1 ([(⟨#[108]⟩ : ByteArray)] : List ByteArray)]) 1 2 [0] [1] (by decide) rfl (mks_cons (mk_iso (g := fun g : Txn => (g.Proc, g.Status, g.From, g.To, g.Ops)) (x := (⟨0, 1, 0, 1, ([(⟨2, 0, 5, false, ([] : List Int)⟩ : Op), (⟨6, 0, 0, true, ([3, 5] : List Int)⟩ : Op), (⟨6, 0, 0, true, ([5, 3] : List Int)⟩ : Op)] : List Op)⟩ : Txn)) (mk_pair (mk_flat (k := (tInt .i64)) 0 [vI 0] rfl) (mk_pair (mk_flat (k := (tInt .i64)) 1 [vI 1] rfl) (mk_pair (mk_flat (k := (tInt .i64)) 0 [vI 0] rfl) (mk_pair (mk_flat (k := (tInt .i64)) 1 [vI 1] rfl) mk_row))))) mks_nil) rfl rfl (by kernel_rfl)
  refine bp 9 1 (oe 10 rfl ?_)
  refine e_alloc 40 (.agg #[vS none 0 0, vS none 0 0]) [vS none 0 0, vS none 0 0] rfl (by kernel_rfl) rfl hI ?_
  clear hI
  intro b22 _ hI
  refine oe 11 rfl ?_
  refine e_store 40 _ _ 2 b22 40 [vS none 0 0, vS none 0 0] [vS (some ⟨b12, 0, none⟩) 1 1, vS (some ⟨b20, 0, none⟩) 1 1] 0 (.agg #[vS (some ⟨b12, 0, none⟩) 1 1, vS (some ⟨b20, 0, none⟩) 1 1]) rfl (by kernel_rfl) (by kernel_rfl) (by kernel_rfl) (by kernel_rfl) hI rfl (by kernel_rfl) (by kernel_rfl) ?_
  clear hI
  intro _ hI
  refine ro (go_seq (r_in (bg 0 [.l 0 0] (gA (hI.grp 2 rfl)) ?_)))
  replace H := bind_some H
  obtain ⟨y29, hy30, H⟩ := H
  refine o_is 5 (vS (some ⟨b12, 0, none⟩) 1 1) (vS (some ⟨b12, 0, none⟩) (([(⟨#[108]⟩ : ByteArray)] : List ByteArray).length) 1) (by kernel_rfl) (by first | rfl | simp only [List.length_set, List.length_replicate, List.length_nil]) ?_
  refine o_is 7 (vS (some ⟨b14, 0, none⟩) 2 2) (vS (some ⟨b14, 0, none⟩) (([3, 5] : List Int).length) 2) (by kernel_rfl) (by first | rfl | simp only [List.length_set, List.length_replicate, List.length_nil]) ?_
  refine o_is 8 (.agg #[vI 6, vI 0, vI 0, vB true, vS (some ⟨b14, 0, none⟩) 2 2]) (.agg #[vI 6, vI 0, vI 0, vB true, vS (some ⟨b14, 0, none⟩) (([3, 5] : List Int).length) 2]) (by kernel_rfl) (by first | rfl | simp only [List.length_set, List.length_replicate, List.length_nil]) ?_
  refine o_is 9 (vS (some ⟨b16, 0, none⟩) 2 2) (vS (some ⟨b16, 0, none⟩) (([5, 3] : List Int).length) 2) (by kernel_rfl) (by first | rfl | simp only [List.length_set, List.length_replicate, List.length_nil]) ?_
  refine o_is 10 (.agg #[vI 6, vI 0, vI 0, vB true, vS (some ⟨b16, 0, none⟩) 2 2]) (.agg #[vI 6, vI 0, vI 0, vB true, vS (some ⟨b16, 0, none⟩) (([5, 3] : List Int).length) 2]) (by kernel_rfl) (by first | rfl | simp only [List.length_set, List.length_replicate, List.length_nil]) ?_
  refine o_is 11 (vS (some ⟨b18, 0, none⟩) 3 3) (vS (some ⟨b18, 0, none⟩) (([(⟨2, 0, 5, false, ([] : List Int)⟩ : Op), (⟨6, 0, 0, true, ([3, 5] : List Int)⟩ : Op), (⟨6, 0, 0, true, ([5, 3] : List Int)⟩ : Op)] : List Op).length) 3) (by kernel_rfl) (by first | rfl | simp only [List.length_set, List.length_replicate, List.length_nil]) ?_
  refine o_is 12 (.agg #[vI 0, vI 1, vI 0, vI 1, vS (some ⟨b18, 0, none⟩) 3 3]) (.agg #[vI 0, vI 1, vI 0, vI 1, vS (some ⟨b18, 0, none⟩) (([(⟨2, 0, 5, false, ([] : List Int)⟩ : Op), (⟨6, 0, 0, true, ([3, 5] : List Int)⟩ : Op), (⟨6, 0, 0, true, ([5, 3] : List Int)⟩ : Op)] : List Op).length) 3]) (by kernel_rfl) (by first | rfl | simp only [List.length_set, List.length_replicate, List.length_nil]) ?_
  refine o_is 13 (vS (some ⟨b20, 0, none⟩) 1 1) (vS (some ⟨b20, 0, none⟩) (([(⟨0, 1, 0, 1, ([(⟨2, 0, 5, false, ([] : List Int)⟩ : Op), (⟨6, 0, 0, true, ([3, 5] : List Int)⟩ : Op), (⟨6, 0, 0, true, ([5, 3] : List Int)⟩ : Op)] : List Op)⟩ : Txn)] : List Txn).length) 1) (by kernel_rfl) (by first | rfl | simp only [List.length_set, List.length_replicate, List.length_nil]) ?_
  refine o_is 14 (.agg #[vS (some ⟨b12, 0, none⟩) 1 1, vS (some ⟨b20, 0, none⟩) 1 1]) (.agg #[vS (some ⟨b12, 0, none⟩) (([(⟨#[108]⟩ : ByteArray)] : List ByteArray).length) 1, vS (some ⟨b20, 0, none⟩) (([(⟨0, 1, 0, 1, ([(⟨2, 0, 5, false, ([] : List Int)⟩ : Op), (⟨6, 0, 0, true, ([3, 5] : List Int)⟩ : Op), (⟨6, 0, 0, true, ([5, 3] : List Int)⟩ : Op)] : List Op)⟩ : Txn)] : List Txn).length) 1]) (by kernel_rfl) (by first | rfl | simp only [List.length_set, List.length_replicate, List.length_nil]) ?_
  refine o_is 16 (.agg #[vS (some ⟨b12, 0, none⟩) 1 1, vS (some ⟨b20, 0, none⟩) 1 1]) (.agg #[vS (some ⟨b12, 0, none⟩) (([(⟨#[108]⟩ : ByteArray)] : List ByteArray).length) 1, vS (some ⟨b20, 0, none⟩) (([(⟨0, 1, 0, 1, ([(⟨2, 0, 5, false, ([] : List Int)⟩ : Op), (⟨6, 0, 0, true, ([3, 5] : List Int)⟩ : Op), (⟨6, 0, 0, true, ([5, 3] : List Int)⟩ : Op)] : List Op)⟩ : Txn)] : List Txn).length) 1]) (by kernel_rfl) (by first | rfl | simp only [List.length_set, List.length_replicate, List.length_nil]) ?_
  refine o_is 16 (.agg #[vS (some ⟨b12, 0, none⟩) 1 1, vS (some ⟨b20, 0, none⟩) 1 1]) (.agg #[vS (some ⟨b12, 0, none⟩) (([(⟨#[108]⟩ : ByteArray)] : List ByteArray).length) 1, vS (some ⟨b20, 0, none⟩) (([(⟨0, 1, 0, 1, ([(⟨2, 0, 5, false, ([] : List Int)⟩ : Op), (⟨6, 0, 0, true, ([3, 5] : List Int)⟩ : Op), (⟨6, 0, 0, true, ([5, 3] : List Int)⟩ : Op)] : List Op)⟩ : Txn)] : List Txn).length) 1]) (by kernel_rfl) (by first | rfl | simp only [List.length_set, List.length_replicate, List.length_nil]) ?_
  replace hI := hI.renum 0 rfl
  replace hI := hI.renum 1 rfl
  replace hI := hI.recell 2 [vS (some ⟨b12, 0, none⟩) (([(⟨#[108]⟩ : ByteArray)] : List ByteArray).length) 1, vS (some ⟨b20, 0, none⟩) (([(⟨0, 1, 0, 1, ([(⟨2, 0, 5, false, ([] : List Int)⟩ : Op), (⟨6, 0, 0, true, ([3, 5] : List Int)⟩ : Op), (⟨6, 0, 0, true, ([5, 3] : List Int)⟩ : Op)] : List Op)⟩ : Txn)] : List Txn).length) 1] (by first | rfl | simp only [List.length_set, List.length_replicate, List.length_nil]) rfl
  refine oe 1 rfl ?_
  refine ec (enter28 _) (local_Look_calls (⟨([(⟨#[108]⟩ : ByteArray)] : List ByteArray), ([(⟨0, 1, 0, 1, ([(⟨2, 0, 5, false, ([] : List Int)⟩ : Op), (⟨6, 0, 0, true, ([3, 5] : List Int)⟩ : Op), (⟨6, 0, 0, true, ([5, 3] : List Int)⟩ : Op)] : List Op)⟩ : Txn)] : List Txn)⟩ : History) (some ⟨b12, 0, none⟩) 1 (some ⟨b20, 0, none⟩) 1 0 (memOf _) _ (Inv.start _) (hI.row 1 rfl) (hI.rowle 1 rfl) (hI.row 0 rfl) (hI.rowle 0 rfl) _ hy30) ?_
  rintro _ _ ⟨A31, c32, A33, c34, rfl, hI'⟩
  replace hI := hI.call0 hI'
  clear hI'
  refine ⟨_, rfl, ?_⟩
  refine bp 2 7 (ro (go_seq (r_in ?_)))
  replace H := cond_some H
  rcases H with ⟨hc61, H⟩ | ⟨hc61, H⟩
  · replace H := cond_some H
    rcases H with ⟨hc62, H⟩ | ⟨hc62, H⟩
    · replace H := must_some H
      obtain ⟨g63, H⟩ := H
      obtain ⟨b64, rfl⟩ := hI.rowAt 3 rfl g63
      obtain ⟨cs67, hk66, hg65⟩ := rdS.look (hI.row 3 rfl) (hI.rowlen 3 rfl) g63
      obtain ⟨_, _, rfl, rfl, ⟨_, _, rfl, rfl, ⟨_, _, rfl, rfl, ⟨A68, c69, rfl, hl71, hr70⟩⟩⟩⟩ := hk66
      replace H := cond_some H
      rcases H with ⟨hc72, H⟩ | ⟨hc72, H⟩
      · obtain ⟨cs75, hk74, hg73⟩ := rdS.look (hI.row 3 rfl) (hI.rowlen 3 rfl) g63
        obtain ⟨_, _, rfl, rfl, ⟨_, _, rfl, rfl, ⟨_, _, rfl, rfl, ⟨A76, c77, rfl, hl79, hr78⟩⟩⟩⟩ := hk74
        replace H := must_some H
        obtain ⟨g80, H⟩ := H
        obtain ⟨b81, q82, rfl, _⟩ := rdS.fopen hr78 rfl g80
        replace H := cond_some H
        rcases H with ⟨hc83, H⟩ | ⟨hc83, H⟩
        · replace H := cond_some H
          rcases H with ⟨hc84, H⟩ | ⟨hc84, H⟩
          · replace H := must_some H
            obtain ⟨g85, H⟩ := H
            obtain ⟨b86, rfl⟩ := hI.rowAt 4 rfl g85
            refine bx 0 [.p, .p, .c true, .p, .p, .p, .p, .c true, .p, .x, .p, .l 0 3, .p, .p, .p, .c true, .p, .x, .p, .l 1 3, .x, .l 2 0, .p, .p, .c true, .p, .p, .p, .p, .c true, .p, .x, .l 3 0, .p, .x, .p, .p] (gD hg65.ok hg73.ok ((rdS.flook hr78 rfl g80).ok) ((rdS.flook (hI.row 4 rfl) (hI.rowlen 4 rfl) g85).ok)) _ (bC (bndEq hc61) (bC (bndEq hc62) (bC g63 (bC (bndEq hc72) (bC g63 (bC g80 (bC (bndEq hc83) (bC (bndEq hc84) (bZ g85))))))))) ?_
            refine ro ?_
            replace H := Option.some.inj H
            subst H
            exact gr Try.func26 ⟨rfl, hI.pn⟩
          · refine bx 0 [.p, .p, .c true, .p, .p, .p, .p, .c true, .p, .x, .p, .l 0 3, .p, .p, .p, .c true, .p, .x, .p, .l 1 3, .x, .l 2 0, .p, .p, .c true, .p, .p, .p, .p, .c false, .p, .p, .p, .p, .p, .p, .p] (gC hg65.ok hg73.ok ((rdS.flook hr78 rfl g80).ok)) _ (bC (bndEq hc61) (bC (bndEq hc62) (bC g63 (bC (bndEq hc72) (bC g63 (bC g80 (bC (bndEq hc83) (bZ (bndEq hc84))))))))) (ro ?_)
            replace H := Option.some.inj H
            subst H
            exact gr Try.func26 ⟨rfl, hI.pn⟩
        · refine bx 0 [.p, .p, .c true, .p, .p, .p, .p, .c true, .p, .x, .p, .l 0 3, .p, .p, .p, .c true, .p, .x, .p, .l 1 3, .x, .l 2 0, .p, .p, .c false, .p, .p, .p, .p, .p, .p, .p, .p, .p, .p, .p, .p] (gC hg65.ok hg73.ok ((rdS.flook hr78 rfl g80).ok)) _ (bC (bndEq hc61) (bC (bndEq hc62) (bC g63 (bC (bndEq hc72) (bC g63 (bC g80 (bZ (bndEq hc83)))))))) (ro ?_)
          replace H := Option.some.inj H
          subst H
          exact gr Try.func26 ⟨rfl, hI.pn⟩
      · refine bx 0 [.p, .p, .c true, .p, .p, .p, .p, .c true, .p, .x, .p, .l 0 3, .p, .p, .p, .c false, .p, .p, .p, .p, .p, .p, .p, .p, .p, .p, .p, .p, .p, .p, .p, .p, .p, .p, .p, .p, .p] (gA hg65.ok) _ (bC (bndEq hc61) (bC (bndEq hc62) (bC g63 (bZ (bndEq hc72))))) (ro ?_)
        replace H := Option.some.inj H
        subst H
        exact gr Try.func26 ⟨rfl, hI.pn⟩
    · refine bx 0 [.p, .p, .c true, .p, .p, .p, .p, .c false, .p, .p, .p, .p, .p, .p, .p, .p, .p, .p, .p, .p, .p, .p, .p, .p, .p, .p, .p, .p, .p, .p, .p, .p, .p, .p, .p, .p, .p] gO _ (bC (bndEq hc61) (bZ (bndEq hc62))) (ro ?_)
      replace H := Option.some.inj H
      subst H
      exact gr Try.func26 ⟨rfl, hI.pn⟩
  · refine bx 0 [.p, .p, .c false, .p, .p, .p, .p, .p, .p, .p, .p, .p, .p, .p, .p, .p, .p, .p, .p, .p, .p, .p, .p, .p, .p, .p, .p, .p, .p, .p, .p, .p, .p, .p, .p, .p, .p] gO _ (bZ (bndEq hc61)) (ro ?_)
    replace H := Option.some.inj H
    subst H
    exact gr Try.func26 ⟨rfl, hI.pn⟩

/-! ### assizeref05zCopy -/
theorem enter27 (a : Array Value) : Sem.pureRun Try.prog (callFunc 27 a) = some (.enter 27 a) := by kernel_rfl
theorem assizeref05zCopy_calls (a0 : History) (A0z0 : Option Addr) (c0z0 : Nat) (A0z1 : Option Addr) (c0z1 : Nat) (M : Mem) (w : World) (hI : Inv M w []) (hr0z0 : rdS tStr M.blk A0z0 a0.Keys) (hl0z0 : a0.Keys.length ≤ c0z0) (hr0z1 : rdS kTxn M.blk A0z1 a0.Txns) (hl0z1 : a0.Txns.length ≤ c0z1) (r : History) (H : assizeref05zCopy a0 = some r) :
    Calls Try.prog 27 #[.agg #[vS A0z0 a0.Keys.length c0z0, vS A0z1 a0.Txns.length c0z1]] w fun e w' => ∃ (A2053 : Option Addr), ∃ (c2054 : Nat), ∃ (A2055 : Option Addr), ∃ (c2056 : Nat), e = .returned (.agg #[vS A2053 r.Keys.length c2054, vS A2055 r.Txns.length c2056]) ∧ Inv M w' [.row tStr 9 A2053 r.Keys.length c2054 r.Keys, .row kTxn 61 A2055 r.Txns.length c2056 r.Txns] := by
  refine cg Try.func27 ?_
  intro cs
  unfold assizeref05zCopy at H
  refine go_seq (r_in (oe 0 rfl ?_))
  refine e_box 40 _ (.agg #[vS A0z0 a0.Keys.length c0z0, vS A0z1 a0.Txns.length c0z1]) [vS A0z0 a0.Keys.length c0z0, vS A0z1 a0.Txns.length c0z1] rfl (by kernel_rfl) rfl hI ?_
  clear hI
  intro b3 _ hI
  refine oe 1 rfl ?_
  refine e_alloc 40 (.agg #[vS none 0 0, vS none 0 0]) [vS none 0 0, vS none 0 0] rfl (by kernel_rfl) rfl hI ?_
  clear hI
  intro b4 _ hI
  refine ro (go_seq (r_in (oe 0 rfl ?_)))
  refine e_empty (α := ByteArray) tStr 37 9 _ rfl rfl rfl hI ?_
  clear hI
  intro b10 _ hI
  refine bg 1 [.p, .l 0 0] (gA (hI.grp 0 rfl)) ?_
  replace H := must_some H
  obtain ⟨g11, H⟩ := H
  refine oe 3 rfl ?_
  refine e_append_rd (kt := tStr) 37 0 9 _ _ _ _ (some ⟨b10, 0, none⟩) A0z0 0 0 ([] : List ByteArray) a0.Keys c0z0 2 [0, 1] [.blk b3 40 [vS A0z0 a0.Keys.length c0z0, vS A0z1 a0.Txns.length c0z1], .blk b4 40 [vS none 0 0, vS none 0 0]] rfl (by kernel_rfl) (by kernel_rfl) rfl rfl rfl rfl rfl (by kernel_rfl) hI (by decide) rfl (hI.rd hr0z0) g11 ?_
  clear hI
  intro A12 c13 _ hI
  refine bp 4 1 (oe 5 rfl ?_)
  refine e_alloc 40 (.agg #[vS none 0 0, vS none 0 0]) [vS none 0 0, vS none 0 0] rfl (by kernel_rfl) rfl hI ?_
  clear hI
  intro b14 _ hI
  refine oe 6 rfl ?_
  refine e_store 40 _ _ 3 b14 40 [vS none 0 0, vS none 0 0] [vS A12 ((([] : List ByteArray) ++ a0.Keys).length) c13, vS none 0 0] 0 (.agg #[vS A12 ((([] : List ByteArray) ++ a0.Keys).length) c13, vS none 0 0]) rfl (by kernel_rfl) (by kernel_rfl) (by kernel_rfl) (by kernel_rfl) hI rfl (by kernel_rfl) (by kernel_rfl) ?_
  clear hI
  intro _ hI
  refine ro (go_seq (go_seq (rp 1 (go_block ?_))))
  refine go_iter (assizeref05zCopy.s1 a0) (fun (l1251, x1254) f w => ∃ (j : Nat → Value) (A1252 : Option Addr) (c1253 : Nat), f = updL j [(1, vP b3 0), (2, vP b4 0), (3, vP b14 0), (4, vI x1254)] ∧ Inv M w [.blk b3 40 [vS A0z0 a0.Keys.length c0z0, vS A0z1 a0.Txns.length c0z1], .blk b4 40 [vS none 0 0, vS none 0 0], .blk b14 40 [vS A12 ((([] : List ByteArray) ++ a0.Keys).length) c13, vS A1252 l1251.length c1253], .row tStr 9 A12 ((([] : List ByteArray) ++ a0.Keys).length) c13 (([] : List ByteArray) ++ a0.Keys), .row kTxn 61 A1252 l1251.length c1253 l1251]) H ⟨_, none, 0, at_, (hI.nilrow kTxn 61).pick [1, 2, 3, 0, 4] (by decide) rfl⟩ ?_
  clear H hI
  rintro ⟨l1251, x1254⟩ _ _ o1 H ⟨_, A1252, c1253, rfl, hI⟩ hin1 hout1
  refine go_seq (go_seq (rg [.p, .p, .l 0 1, .p, .p] (gA (hI.grp 0 rfl)) ?_))
  replace H := cond_some H
  rcases H with ⟨hc1256, H⟩ | ⟨hc1256, H⟩
  · refine gt hc1256 (go_skip (go_seq (go_block (go_seq (r_in ?_)))))
    replace H := must_some H
    obtain ⟨g1558, H⟩ := H
    obtain ⟨b1562, q1563, rfl, cs1561, hk1560, hg1559⟩ := rdS.open hr0z1 rfl g1558
    obtain ⟨_, _, rfl, rfl, ⟨_, _, rfl, rfl, ⟨_, _, rfl, rfl, ⟨_, _, rfl, rfl, ⟨A1564, c1565, rfl, hl1567, hr1566⟩⟩⟩⟩⟩ := hk1560
    refine bx 0 [.p, .l 0 1, .p, .x, .l 1 0] (gB (hI.grp 0 rfl) (hI.lies hg1559)) _ (bZ g1558) (oe 5 rfl ?_)
    refine e_alloc 61 (.agg #[vI 0, vI 0, vI 0, vI 0, vS none 0 0]) [vI 0, vI 0, vI 0, vI 0, vS none 0 0] rfl (by kernel_rfl) rfl hI ?_
    clear hI
    intro b1568 _ hI
    refine oe 6 rfl ?_
    refine e_store 61 _ _ 5 b1568 61 [vI 0, vI 0, vI 0, vI 0, vS none 0 0] [vI ((idx a0.Txns x1254).Proc), vI ((idx a0.Txns x1254).Status), vI ((idx a0.Txns x1254).From), vI ((idx a0.Txns x1254).To), vS A1564 (((idx a0.Txns x1254).Ops).length) c1565] 0 (.agg #[vI ((idx a0.Txns x1254).Proc), vI ((idx a0.Txns x1254).Status), vI ((idx a0.Txns x1254).From), vI ((idx a0.Txns x1254).To), vS A1564 (((idx a0.Txns x1254).Ops).length) c1565]) rfl (by kernel_rfl) (by kernel_rfl) (by kernel_rfl) (by kernel_rfl) hI rfl (by kernel_rfl) (by kernel_rfl) ?_
    clear hI
    intro _ hI
    refine ro (go_seq (r_in (bp 0 1 (oe 1 rfl ?_))))
    refine e_store 59 _ _ 5 b1568 61 [vI ((idx a0.Txns x1254).Proc), vI ((idx a0.Txns x1254).Status), vI ((idx a0.Txns x1254).From), vI ((idx a0.Txns x1254).To), vS A1564 (((idx a0.Txns x1254).Ops).length) c1565] [vI ((idx a0.Txns x1254).Proc), vI ((idx a0.Txns x1254).Status), vI ((idx a0.Txns x1254).From), vI ((idx a0.Txns x1254).To), vS none 0 0] 4 (vS none 0 0) rfl (by kernel_rfl) (by kernel_rfl) (by kernel_rfl) (by kernel_rfl) hI rfl (by kernel_rfl) (by kernel_rfl) ?_
    clear hI
    intro _ hI
    refine ro (go_seq (go_seq (rp 1 (go_block ?_))))
    refine go_iter (assizeref05zCopy.s2 a0 l1251 x1254) (fun (l1917, x1920) f w => ∃ (j : Nat → Value) (A1918 : Option Addr) (c1919 : Nat), f = updL j [(1, vP b3 0), (2, vP b4 0), (3, vP b14 0), (4, vI x1254), (5, vP b1568 0), (6, vI x1920)] ∧ Inv M w [.blk b3 40 [vS A0z0 a0.Keys.length c0z0, vS (some ⟨b1562, q1563, none⟩) a0.Txns.length c0z1], .blk b4 40 [vS none 0 0, vS none 0 0], .blk b14 40 [vS A12 ((([] : List ByteArray) ++ a0.Keys).length) c13, vS A1252 l1251.length c1253], .row tStr 9 A12 ((([] : List ByteArray) ++ a0.Keys).length) c13 (([] : List ByteArray) ++ a0.Keys), .row kTxn 61 A1252 l1251.length c1253 l1251, .blk b1568 61 [vI ((idx a0.Txns x1254).Proc), vI ((idx a0.Txns x1254).Status), vI ((idx a0.Txns x1254).From), vI ((idx a0.Txns x1254).To), vS A1918 l1917.length c1919], .row kOp 63 A1918 l1917.length c1919 l1917]) H ⟨_, none, 0, at_, (hI.nilrow kOp 63)⟩ ?_
    clear H hI
    rintro ⟨l1917, x1920⟩ _ _ o2 H ⟨_, A1918, c1919, rfl, hI⟩ hin2 hout2
    refine go_seq (go_seq (r_in ?_))
    obtain ⟨cs1938, hk1937, hg1936⟩ := rdS.look hr0z1 rfl g1558
    obtain ⟨_, _, rfl, rfl, ⟨_, _, rfl, rfl, ⟨_, _, rfl, rfl, ⟨_, _, rfl, rfl, ⟨A1939, c1940, rfl, hl1942, hr1941⟩⟩⟩⟩⟩ := hk1937
    refine bx 0 [.p, .p, .l 0 1, .p, .x, .p, .l 1 4, .p, .p] (gB (hI.grp 0 rfl) (hI.lies hg1936)) _ (bZ g1558) (ro ?_)
    replace H := cond_some H
    rcases H with ⟨hc1943, H⟩ | ⟨hc1943, H⟩
    · refine gt hc1943 (go_skip (go_seq (go_block (go_seq (r_in ?_)))))
      obtain ⟨cs2018, hk2017, hg2016⟩ := rdS.look hr0z1 rfl g1558
      obtain ⟨_, _, rfl, rfl, ⟨_, _, rfl, rfl, ⟨_, _, rfl, rfl, ⟨_, _, rfl, rfl, ⟨A2019, c2020, rfl, hl2022, hr2021⟩⟩⟩⟩⟩ := hk2017
      replace H := must_some H
      obtain ⟨g2023, H⟩ := H
      obtain ⟨b2027, q2028, rfl, cs2026, hk2025, hg2024⟩ := rdS.open hr2021 rfl g2023
      obtain ⟨_, _, rfl, rfl, ⟨_, _, rfl, rfl, ⟨_, _, rfl, rfl, ⟨_, _, rfl, rfl, ⟨A2029, c2030, rfl, hl2032, hr2031⟩⟩⟩⟩⟩ := hk2025
      refine bx 0 [.p, .l 0 1, .p, .x, .p, .l 1 4, .p, .x, .l 2 0] (gC (hI.grp 0 rfl) (hI.lies hg2016) (hI.lies hg2024)) _ (bC g1558 (bZ g2023)) (oe 9 rfl ?_)
      refine e_alloc 63 (.agg #[vI 0, vI 0, vI 0, vB false, vS none 0 0]) [vI 0, vI 0, vI 0, vB false, vS none 0 0] rfl (by kernel_rfl) rfl hI ?_
      clear hI
      intro b2033 _ hI
      refine oe 10 rfl ?_
      refine e_store 63 _ _ 7 b2033 63 [vI 0, vI 0, vI 0, vB false, vS none 0 0] [vI ((idx ((idx a0.Txns x1254).Ops) x1920).Kind), vI ((idx ((idx a0.Txns x1254).Ops) x1920).Key), vI ((idx ((idx a0.Txns x1254).Ops) x1920).Arg), vB ((idx ((idx a0.Txns x1254).Ops) x1920).Got), vS A2029 (((idx ((idx a0.Txns x1254).Ops) x1920).Vals).length) c2030] 0 (.agg #[vI ((idx ((idx a0.Txns x1254).Ops) x1920).Kind), vI ((idx ((idx a0.Txns x1254).Ops) x1920).Key), vI ((idx ((idx a0.Txns x1254).Ops) x1920).Arg), vB ((idx ((idx a0.Txns x1254).Ops) x1920).Got), vS A2029 (((idx ((idx a0.Txns x1254).Ops) x1920).Vals).length) c2030]) rfl (by kernel_rfl) (by kernel_rfl) (by kernel_rfl) (by kernel_rfl) hI rfl (by kernel_rfl) (by kernel_rfl) ?_
      clear hI
      intro _ hI
      refine ro (go_seq (r_in (oe 0 rfl ?_)))
      refine e_empty (α := Int) (tInt .i64) 22 2 _ rfl rfl rfl hI ?_
      clear hI
      intro b2038 _ hI
      refine bg 1 [.p, .l 0 4] (gA (hI.grp 7 rfl)) ?_
      replace H := must_some H
      obtain ⟨g2039, H⟩ := H
      refine oe 3 rfl ?_
      refine e_append_rd (kt := (tInt .i64)) 22 0 2 _ _ _ _ (some ⟨b2038, 0, none⟩) A2029 0 0 ([] : List Int) ((idx ((idx a0.Txns x1254).Ops) x1920).Vals) c2030 8 [0, 1, 2, 3, 4, 5, 6, 7] [.blk b3 40 [vS A0z0 a0.Keys.length c0z0, vS (some ⟨b1562, q1563, none⟩) a0.Txns.length c0z1], .blk b4 40 [vS none 0 0, vS none 0 0], .blk b14 40 [vS A12 ((([] : List ByteArray) ++ a0.Keys).length) c13, vS A1252 l1251.length c1253], .row tStr 9 A12 ((([] : List ByteArray) ++ a0.Keys).length) c13 (([] : List ByteArray) ++ a0.Keys), .row kTxn 61 A1252 l1251.length c1253 l1251, .blk b1568 61 [vI ((idx a0.Txns x1254).Proc), vI ((idx a0.Txns x1254).Status), vI ((idx a0.Txns x1254).From), vI ((idx a0.Txns x1254).To), vS A1918 l1917.length c1919], .row kOp 63 A1918 l1917.length c1919 l1917, .blk b2033 63 [vI ((idx ((idx a0.Txns x1254).Ops) x1920).Kind), vI ((idx ((idx a0.Txns x1254).Ops) x1920).Key), vI ((idx ((idx a0.Txns x1254).Ops) x1920).Arg), vB ((idx ((idx a0.Txns x1254).Ops) x1920).Got), vS A2029 (((idx ((idx a0.Txns x1254).Ops) x1920).Vals).length) c2030]] rfl (by kernel_rfl) (by kernel_rfl) rfl rfl rfl rfl rfl (by kernel_rfl) hI (by decide) rfl (hI.rd hr2031) g2039 ?_
      clear hI
      intro A2040 c2041 _ hI
      refine bp 4 1 (oe 5 rfl ?_)
      refine e_store 22 _ _ 8 b2033 63 [vI ((idx ((idx a0.Txns x1254).Ops) x1920).Kind), vI ((idx ((idx a0.Txns x1254).Ops) x1920).Key), vI ((idx ((idx a0.Txns x1254).Ops) x1920).Arg), vB ((idx ((idx a0.Txns x1254).Ops) x1920).Got), vS A2029 (((idx ((idx a0.Txns x1254).Ops) x1920).Vals).length) c2030] [vI ((idx ((idx a0.Txns x1254).Ops) x1920).Kind), vI ((idx ((idx a0.Txns x1254).Ops) x1920).Key), vI ((idx ((idx a0.Txns x1254).Ops) x1920).Arg), vB ((idx ((idx a0.Txns x1254).Ops) x1920).Got), vS A2040 ((([] : List Int) ++ ((idx ((idx a0.Txns x1254).Ops) x1920).Vals)).length) c2041] 4 (vS A2040 ((([] : List Int) ++ ((idx ((idx a0.Txns x1254).Ops) x1920).Vals)).length) c2041) rfl (by kernel_rfl) (by kernel_rfl) (by kernel_rfl) (by kernel_rfl) hI rfl (by kernel_rfl) (by kernel_rfl) ?_
      clear hI
      intro _ hI
      refine ro (r_in (bg 0 [.p, .l 0 4, .l 1 0] (gB (hI.grp 6 rfl) (hI.grp 8 rfl)) (oe 3 rfl ?_)))
      refine e_partsS 59 63 1 _ _ _ #[vI ((idx ((idx a0.Txns x1254).Ops) x1920).Kind), vI ((idx ((idx a0.Txns x1254).Ops) x1920).Key), vI ((idx ((idx a0.Txns x1254).Ops) x1920).Arg), vB ((idx ((idx a0.Txns x1254).Ops) x1920).Got), vS A2040 ((([] : List Int) ++ ((idx ((idx a0.Txns x1254).Ops) x1920).Vals)).length) c2041] [vI ((idx ((idx a0.Txns x1254).Ops) x1920).Kind), vI ((idx ((idx a0.Txns x1254).Ops) x1920).Key), vI ((idx ((idx a0.Txns x1254).Ops) x1920).Arg), vB ((idx ((idx a0.Txns x1254).Ops) x1920).Got), vS A2040 ((([] : List Int) ++ ((idx ((idx a0.Txns x1254).Ops) x1920).Vals)).length) c2041] rfl rfl rfl rfl (by kernel_rfl) (by kernel_rfl) (by kernel_rfl) (by kernel_rfl) hI ?_
      clear hI
      intro b2042 _ hs2043 hI
      replace H := must_some H
      obtain ⟨g2044, H⟩ := H
      refine oe 4 rfl ?_
      refine e_append kOp 59 0 63 _ _ _ _ A1918 l1917.length c1919 l1917 ([(⟨(idx ((idx a0.Txns x1254).Ops) x1920).Kind, (idx ((idx a0.Txns x1254).Ops) x1920).Key, (idx ((idx a0.Txns x1254).Ops) x1920).Arg, (idx ((idx a0.Txns x1254).Ops) x1920).Got, ([] : List Int) ++ ((idx ((idx a0.Txns x1254).Ops) x1920).Vals)⟩ : Op)] : List Op) b2042 0 1 1 [vI ((idx ((idx a0.Txns x1254).Ops) x1920).Kind), vI ((idx ((idx a0.Txns x1254).Ops) x1920).Key), vI ((idx ((idx a0.Txns x1254).Ops) x1920).Arg), vB ((idx ((idx a0.Txns x1254).Ops) x1920).Got), vS A2040 ((([] : List Int) ++ ((idx ((idx a0.Txns x1254).Ops) x1920).Vals)).length) c2041] 7 [0] [1, 2, 3, 4, 5, 6, 8, 9] [.row (tInt .i64) 2 A2040 ((([] : List Int) ++ ((idx ((idx a0.Txns x1254).Ops) x1920).Vals)).length) c2041 (([] : List Int) ++ ((idx ((idx a0.Txns x1254).Ops) x1920).Vals))] [.blk b3 40 [vS A0z0 a0.Keys.length c0z0, vS (some ⟨b1562, q1563, none⟩) a0.Txns.length c0z1], .blk b4 40 [vS none 0 0, vS none 0 0], .blk b14 40 [vS A12 ((([] : List ByteArray) ++ a0.Keys).length) c13, vS A1252 l1251.length c1253], .row tStr 9 A12 ((([] : List ByteArray) ++ a0.Keys).length) c13 (([] : List ByteArray) ++ a0.Keys), .row kTxn 61 A1252 l1251.length c1253 l1251, .blk b1568 61 [vI ((idx a0.Txns x1254).Proc), vI ((idx a0.Txns x1254).Status), vI ((idx a0.Txns x1254).From), vI ((idx a0.Txns x1254).To), vS A1918 l1917.length c1919], .blk b2033 63 [vI ((idx ((idx a0.Txns x1254).Ops) x1920).Kind), vI ((idx ((idx a0.Txns x1254).Ops) x1920).Key), vI ((idx ((idx a0.Txns x1254).Ops) x1920).Arg), vB ((idx ((idx a0.Txns x1254).Ops) x1920).Got), vS A2040 ((([] : List Int) ++ ((idx ((idx a0.Txns x1254).Ops) x1920).Vals)).length) c2041], .blk b2042 63 [vI ((idx ((idx a0.Txns x1254).Ops) x1920).Kind), vI ((idx ((idx a0.Txns x1254).Ops) x1920).Key), vI ((idx ((idx a0.Txns x1254).Ops) x1920).Arg), vB ((idx ((idx a0.Txns x1254).Ops) x1920).Got), vS A2040 ((([] : List Int) ++ ((idx ((idx a0.Txns x1254).Ops) x1920).Vals)).length) c2041]] rfl (by kernel_rfl) (by kernel_rfl) rfl rfl rfl rfl rfl (by kernel_rfl) hI (by decide) rfl rfl rfl (hI.grp 9 rfl) g2044 (mks_cons (mk_iso (g := fun g : Op => (g.Kind, g.Key, g.Arg, g.Got, g.Vals)) (x := (⟨(idx ((idx a0.Txns x1254).Ops) x1920).Kind, (idx ((idx a0.Txns x1254).Ops) x1920).Key, (idx ((idx a0.Txns x1254).Ops) x1920).Arg, (idx ((idx a0.Txns x1254).Ops) x1920).Got, ([] : List Int) ++ ((idx ((idx a0.Txns x1254).Ops) x1920).Vals)⟩ : Op)) (mk_pair (mk_flat (k := (tInt .i64)) ((idx ((idx a0.Txns x1254).Ops) x1920).Kind) [vI ((idx ((idx a0.Txns x1254).Ops) x1920).Kind)] rfl) (mk_pair (mk_flat (k := (tInt .i64)) ((idx ((idx a0.Txns x1254).Ops) x1920).Key) [vI ((idx ((idx a0.Txns x1254).Ops) x1920).Key)] rfl) (mk_pair (mk_flat (k := (tInt .i64)) ((idx ((idx a0.Txns x1254).Ops) x1920).Arg) [vI ((idx ((idx a0.Txns x1254).Ops) x1920).Arg)] rfl) (mk_pair (mk_flat (k := tBool) ((idx ((idx a0.Txns x1254).Ops) x1920).Got) [vB ((idx ((idx a0.Txns x1254).Ops) x1920).Got)] rfl) mk_row))))) mks_nil) ?_
      clear hI
      intro A2045 c2046 _ hI
      replace hI := hI.pick (L' := [.row kOp 63 A2045 ((l1917 ++ ([(⟨(idx ((idx a0.Txns x1254).Ops) x1920).Kind, (idx ((idx a0.Txns x1254).Ops) x1920).Key, (idx ((idx a0.Txns x1254).Ops) x1920).Arg, (idx ((idx a0.Txns x1254).Ops) x1920).Got, ([] : List Int) ++ ((idx ((idx a0.Txns x1254).Ops) x1920).Vals)⟩ : Op)] : List Op)).length) c2046 (l1917 ++ ([(⟨(idx ((idx a0.Txns x1254).Ops) x1920).Kind, (idx ((idx a0.Txns x1254).Ops) x1920).Key, (idx ((idx a0.Txns x1254).Ops) x1920).Arg, (idx ((idx a0.Txns x1254).Ops) x1920).Got, ([] : List Int) ++ ((idx ((idx a0.Txns x1254).Ops) x1920).Vals)⟩ : Op)] : List Op)), .blk b3 40 [vS A0z0 a0.Keys.length c0z0, vS (some ⟨b1562, q1563, none⟩) a0.Txns.length c0z1], .blk b4 40 [vS none 0 0, vS none 0 0], .blk b14 40 [vS A12 ((([] : List ByteArray) ++ a0.Keys).length) c13, vS A1252 l1251.length c1253], .row tStr 9 A12 ((([] : List ByteArray) ++ a0.Keys).length) c13 (([] : List ByteArray) ++ a0.Keys), .row kTxn 61 A1252 l1251.length c1253 l1251, .blk b1568 61 [vI ((idx a0.Txns x1254).Proc), vI ((idx a0.Txns x1254).Status), vI ((idx a0.Txns x1254).From), vI ((idx a0.Txns x1254).To), vS A1918 l1917.length c1919], .blk b2033 63 [vI ((idx ((idx a0.Txns x1254).Ops) x1920).Kind), vI ((idx ((idx a0.Txns x1254).Ops) x1920).Key), vI ((idx ((idx a0.Txns x1254).Ops) x1920).Arg), vB ((idx ((idx a0.Txns x1254).Ops) x1920).Got), vS A2040 ((([] : List Int) ++ ((idx ((idx a0.Txns x1254).Ops) x1920).Vals)).length) c2041]]) [0, 1, 2, 3, 4, 5, 6, 7] (by decide) rfl
      refine bp 5 1 (oe 6 rfl ?_)
      refine e_store 59 _ _ 6 b1568 61 [vI ((idx a0.Txns x1254).Proc), vI ((idx a0.Txns x1254).Status), vI ((idx a0.Txns x1254).From), vI ((idx a0.Txns x1254).To), vS A1918 l1917.length c1919] [vI ((idx a0.Txns x1254).Proc), vI ((idx a0.Txns x1254).Status), vI ((idx a0.Txns x1254).From), vI ((idx a0.Txns x1254).To), vS A2045 ((l1917 ++ ([(⟨(idx ((idx a0.Txns x1254).Ops) x1920).Kind, (idx ((idx a0.Txns x1254).Ops) x1920).Key, (idx ((idx a0.Txns x1254).Ops) x1920).Arg, (idx ((idx a0.Txns x1254).Ops) x1920).Got, ([] : List Int) ++ ((idx ((idx a0.Txns x1254).Ops) x1920).Vals)⟩ : Op)] : List Op)).length) c2046] 4 (vS A2045 ((l1917 ++ ([(⟨(idx ((idx a0.Txns x1254).Ops) x1920).Kind, (idx ((idx a0.Txns x1254).Ops) x1920).Key, (idx ((idx a0.Txns x1254).Ops) x1920).Arg, (idx ((idx a0.Txns x1254).Ops) x1920).Got, ([] : List Int) ++ ((idx ((idx a0.Txns x1254).Ops) x1920).Vals)⟩ : Op)] : List Op)).length) c2046) rfl (by kernel_rfl) (by kernel_rfl) (by kernel_rfl) (by kernel_rfl) hI rfl (by kernel_rfl) (by kernel_rfl) ?_
      clear hI
      intro _ hI
      refine ro (go_inBlock (rp 3 ?_))
      exact hin2 _ (Option.some.inj H).symm _ _ ⟨_, A2045, c2046, at_, hI.pick [1, 2, 3, 4, 5, 6, 0] (by decide) rfl⟩
    · refine ge hc1943 ?_
      refine go_exit rfl ?_
      refine r_in (bg 0 [.p, .l 0 1, .l 1 0] (gB (hI.grp 2 rfl) (hI.grp 5 rfl)) (oe 3 rfl ?_))
      refine e_partsS 38 61 1 _ _ _ #[vI ((idx a0.Txns x1254).Proc), vI ((idx a0.Txns x1254).Status), vI ((idx a0.Txns x1254).From), vI ((idx a0.Txns x1254).To), vS A1918 l1917.length c1919] [vI ((idx a0.Txns x1254).Proc), vI ((idx a0.Txns x1254).Status), vI ((idx a0.Txns x1254).From), vI ((idx a0.Txns x1254).To), vS A1918 l1917.length c1919] rfl rfl rfl rfl (by kernel_rfl) (by kernel_rfl) (by kernel_rfl) (by kernel_rfl) hI ?_
      clear hI
      intro b2047 _ hs2048 hI
      replace H := must_some H
      obtain ⟨g2049, H⟩ := H
      refine oe 4 rfl ?_
      refine e_append kTxn 38 0 61 _ _ _ _ A1252 l1251.length c1253 l1251 ([(⟨(idx a0.Txns x1254).Proc, (idx a0.Txns x1254).Status, (idx a0.Txns x1254).From, (idx a0.Txns x1254).To, l1917⟩ : Txn)] : List Txn) b2047 0 1 1 [vI ((idx a0.Txns x1254).Proc), vI ((idx a0.Txns x1254).Status), vI ((idx a0.Txns x1254).From), vI ((idx a0.Txns x1254).To), vS A1918 l1917.length c1919] 4 [6] [0, 1, 2, 3, 5, 7] [.row kOp 63 A1918 l1917.length c1919 l1917] [.blk b3 40 [vS A0z0 a0.Keys.length c0z0, vS (some ⟨b1562, q1563, none⟩) a0.Txns.length c0z1], .blk b4 40 [vS none 0 0, vS none 0 0], .blk b14 40 [vS A12 ((([] : List ByteArray) ++ a0.Keys).length) c13, vS A1252 l1251.length c1253], .row tStr 9 A12 ((([] : List ByteArray) ++ a0.Keys).length) c13 (([] : List ByteArray) ++ a0.Keys), .blk b1568 61 [vI ((idx a0.Txns x1254).Proc), vI ((idx a0.Txns x1254).Status), vI ((idx a0.Txns x1254).From), vI ((idx a0.Txns x1254).To), vS A1918 l1917.length c1919], .blk b2047 61 [vI ((idx a0.Txns x1254).Proc), vI ((idx a0.Txns x1254).Status), vI ((idx a0.Txns x1254).From), vI ((idx a0.Txns x1254).To), vS A1918 l1917.length c1919]] rfl (by kernel_rfl) (by kernel_rfl) rfl rfl rfl rfl rfl (by kernel_rfl) hI (by decide) rfl rfl rfl (hI.grp 7 rfl) g2049 (mks_cons (mk_iso (g := fun g : Txn => (g.Proc, g.Status, g.From, g.To, g.Ops)) (x := (⟨(idx a0.Txns x1254).Proc, (idx a0.Txns x1254).Status, (idx a0.Txns x1254).From, (idx a0.Txns x1254).To, l1917⟩ : Txn)) (mk_pair (mk_flat (k := (tInt .i64)) ((idx a0.Txns x1254).Proc) [vI ((idx a0.Txns x1254).Proc)] rfl) (mk_pair (mk_flat (k := (tInt .i64)) ((idx a0.Txns x1254).Status) [vI ((idx a0.Txns x1254).Status)] rfl) (mk_pair (mk_flat (k := (tInt .i64)) ((idx a0.Txns x1254).From) [vI ((idx a0.Txns x1254).From)] rfl) (mk_pair (mk_flat (k := (tInt .i64)) ((idx a0.Txns x1254).To) [vI ((idx a0.Txns x1254).To)] rfl) mk_row))))) mks_nil) ?_
      clear hI
      intro A2050 c2051 _ hI
      replace hI := hI.pick (L' := [.row kTxn 61 A2050 ((l1251 ++ ([(⟨(idx a0.Txns x1254).Proc, (idx a0.Txns x1254).Status, (idx a0.Txns x1254).From, (idx a0.Txns x1254).To, l1917⟩ : Txn)] : List Txn)).length) c2051 (l1251 ++ ([(⟨(idx a0.Txns x1254).Proc, (idx a0.Txns x1254).Status, (idx a0.Txns x1254).From, (idx a0.Txns x1254).To, l1917⟩ : Txn)] : List Txn)), .blk b3 40 [vS A0z0 a0.Keys.length c0z0, vS (some ⟨b1562, q1563, none⟩) a0.Txns.length c0z1], .blk b4 40 [vS none 0 0, vS none 0 0], .blk b14 40 [vS A12 ((([] : List ByteArray) ++ a0.Keys).length) c13, vS A1252 l1251.length c1253], .row tStr 9 A12 ((([] : List ByteArray) ++ a0.Keys).length) c13 (([] : List ByteArray) ++ a0.Keys), .blk b1568 61 [vI ((idx a0.Txns x1254).Proc), vI ((idx a0.Txns x1254).Status), vI ((idx a0.Txns x1254).From), vI ((idx a0.Txns x1254).To), vS A1918 l1917.length c1919]]) [0, 1, 2, 3, 4, 5] (by decide) rfl
      refine bp 5 1 (oe 6 rfl ?_)
      refine e_store 38 _ _ 3 b14 40 [vS A12 ((([] : List ByteArray) ++ a0.Keys).length) c13, vS A1252 l1251.length c1253] [vS A12 ((([] : List ByteArray) ++ a0.Keys).length) c13, vS A2050 ((l1251 ++ ([(⟨(idx a0.Txns x1254).Proc, (idx a0.Txns x1254).Status, (idx a0.Txns x1254).From, (idx a0.Txns x1254).To, l1917⟩ : Txn)] : List Txn)).length) c2051] 1 (vS A2050 ((l1251 ++ ([(⟨(idx a0.Txns x1254).Proc, (idx a0.Txns x1254).Status, (idx a0.Txns x1254).From, (idx a0.Txns x1254).To, l1917⟩ : Txn)] : List Txn)).length) c2051) rfl (by kernel_rfl) (by kernel_rfl) (by kernel_rfl) (by kernel_rfl) hI rfl (by kernel_rfl) (by kernel_rfl) ?_
      clear hI
      intro _ hI
      refine ro (go_inBlock (rp 3 ?_))
      replace H := out_some H
      obtain ⟨_, H, he2⟩ := H
      have he := (hout2 _ he2).symm
      subst he
      exact hin1 _ (Option.some.inj H).symm _ _ ⟨_, A2050, c2051, at_, hI.pick [1, 2, 3, 4, 0] (by decide) rfl⟩
  · refine ge hc1256 ?_
    refine go_exit rfl ?_
    refine go_seq (r_in (bg 0 [.l 0 0] (gA (hI.grp 2 rfl)) (oe 1 rfl ?_)))
    refine e_store 40 _ _ 1 b4 40 [vS none 0 0, vS none 0 0] [vS A12 ((([] : List ByteArray) ++ a0.Keys).length) c13, vS A1252 l1251.length c1253] 0 (.agg #[vS A12 ((([] : List ByteArray) ++ a0.Keys).length) c13, vS A1252 l1251.length c1253]) rfl (by kernel_rfl) (by kernel_rfl) (by kernel_rfl) (by kernel_rfl) hI rfl (by kernel_rfl) (by kernel_rfl) ?_
    clear hI
    intro _ hI
    refine ro ?_
    replace H := out_some H
    obtain ⟨_, H, he1⟩ := H
    have he := (hout1 _ he1).symm
    subst he
    replace H := Option.some.inj H
    subst H
    exact go_return_c [(b4, 0, [vS A12 ((([] : List ByteArray) ++ a0.Keys).length) c13, vS A1252 l1251.length c1253])] [.c 0] [.agg #[vS A12 ((([] : List ByteArray) ++ a0.Keys).length) c13, vS A1252 l1251.length c1253]] (.agg #[vS A12 ((([] : List ByteArray) ++ a0.Keys).length) c13, vS A1252 l1251.length c1253]) Try.func27 ⟨(hI.grp 1 rfl), trivial⟩ (by kernel_rfl) (by kernel_rfl) (by kernel_rfl) (by kernel_rfl) ⟨A12, c13, A1252, c1253, rfl, hI.pick [3, 4] (by decide) rfl⟩

/-! ### assizeref05zfind -/
theorem enter64 (a : Array Value) : Sem.pureRun Try.prog (callFunc 64 a) = some (.enter 64 a) := by kernel_rfl
theorem assizeref05zfind_calls (A0z : Option Addr) (c0z : Nat) (a0 : List ByteArray) (a1 : ByteArray) (M : Mem) (w : World) (hI : Inv M w []) (hr0z : rdS tStr M.blk A0z a0) (hl0z : a0.length ≤ c0z) (r : Int) (H : assizeref05zfind a0 a1 = some r) :
    Calls Try.prog 64 #[vS A0z a0.length c0z, .string a1] w fun e w' => e = .returned (vI r) ∧ Inv M w' [] := by
  refine cg Try.func64 ?_
  intro cs
  unfold assizeref05zfind at H
  refine go_seq (rp 1 (go_seq (go_seq (rp 1 (go_block ?_)))))
  refine go_iter (assizeref05zfind.s1 a0 a1) (fun x58 f w => ∃ (j : Nat → Value), f = updL j [(0, vS A0z a0.length c0z), (1, .string a1), (5, vI x58)] ∧ Inv M w []) H ⟨_, at_, hI⟩ ?_
  clear H hI
  rintro x58 _ _ o1 H ⟨_, rfl, hI⟩ hin1 hout1
  refine go_seq (go_seq (rp 4 ?_))
  replace H := cond_some H
  rcases H with ⟨hc60, H⟩ | ⟨hc60, H⟩
  · refine gt hc60 (go_skip (go_seq (go_block (go_seq (r_in ?_)))))
    replace H := must_some H
    obtain ⟨g72, H⟩ := H
    obtain ⟨b73, q74, rfl, _⟩ := rdS.fopen hr0z rfl g72
    refine bx 0 [.p, .p, .x, .l 0 0, .p, .p] (gA (hI.lies (rdS.flook hr0z rfl g72))) _ (bZ g72) (ro ?_)
    replace H := cond_some H
    rcases H with ⟨hc75, H⟩ | ⟨hc75, H⟩
    · refine gt hc75 (go_seq (rp 2 ?_))
      replace H := out_some H
      obtain ⟨_, H, he1⟩ := H
      have he := (hout1 _ he1).symm
      subst he
      replace H := Option.some.inj H
      subst H
      exact gr Try.func64 ⟨rfl, hI⟩
    · refine ge hc75 (go_skip (go_inBlock (rp 3 ?_)))
      exact hin1 _ (Option.some.inj H).symm _ _ ⟨_, at_, hI⟩
  · refine ge hc60 ?_
    refine go_exit rfl ?_
    refine go_seq (rp 1 ?_)
    replace H := out_some H
    obtain ⟨_, H, he1⟩ := H
    have he := (hout1 _ he1).symm
    subst he
    replace H := Option.some.inj H
    subst H
    exact gr Try.func64 ⟨rfl, hI⟩

/-! ### assizeref05znames -/
theorem enter53 (a : Array Value) : Sem.pureRun Try.prog (callFunc 53 a) = some (.enter 53 a) := by kernel_rfl
theorem assizeref05znames_calls (A0z : Option Addr) (c0z : Nat) (a0 : List ByteArray) (M : Mem) (w : World) (hI : Inv M w []) (hr0z : rdS tStr M.blk A0z a0) (hl0z : a0.length ≤ c0z) (r : Bool) (H : assizeref05znames a0 = some r) :
    Calls Try.prog 53 #[vS A0z a0.length c0z] w fun e w' => e = .returned (vB r) ∧ Inv M w' [] := by
  refine cg Try.func53 ?_
  intro cs
  unfold assizeref05znames at H
  refine go_seq (rp 1 (go_seq (go_seq (rp 1 (go_block ?_)))))
  refine go_iter (assizeref05znames.s1 a0) (fun x138 f w => ∃ (j : Nat → Value), f = updL j [(0, vS A0z a0.length c0z), (3, vI x138)] ∧ Inv M w []) H ⟨_, at_, hI⟩ ?_
  clear H hI
  rintro x138 _ _ o1 H ⟨_, rfl, hI⟩ hin1 hout1
  refine go_seq (go_seq (rp 4 ?_))
  replace H := cond_some H
  rcases H with ⟨hc140, H⟩ | ⟨hc140, H⟩
  · refine gt hc140 (go_skip (go_seq (go_block ?_)))
    refine go_seq_join (o := o1) (fun b181 f w => ∃ (j : Nat → Value), f = updL j [(0, vS A0z a0.length c0z), (3, vI x138), (34, vB b181)] ∧ Inv M w []) (fun b181 => assizeref05znames.j2 x138 b181) ?_ (fun hJ182 => ?_)
    · clear H hI
      rintro b181 _ _ ⟨_, rfl, hI⟩ H
      replace H := cond_some H
      rcases H with ⟨hc183, H⟩ | ⟨hc183, H⟩
      · refine gt hc183 (go_seq (rp 1 ?_))
        replace H := out_some H
        obtain ⟨_, H, he1⟩ := H
        have he := (hout1 _ he1).symm
        subst he
        replace H := Option.some.inj H
        subst H
        exact gr Try.func53 ⟨rfl, hI⟩
      · refine ge hc183 (go_skip (go_inBlock (rp 3 ?_)))
        exact hin1 _ (Option.some.inj H).symm _ _ ⟨_, at_, hI⟩
    · replace H := must_some H
      obtain ⟨g184, H⟩ := H
      obtain ⟨b185, q186, rfl, _⟩ := rdS.fopen hr0z rfl g184
      replace H := cond_some H
      rcases H with ⟨hc187, H⟩ | ⟨hc187, H⟩
      · refine dx [.p, .p, .x, .l 0 0, .p, .p, .c true, .p, .p, .p, .p, .p, .p, .p, .p, .p, .p, .p, .p, .p, .p, .p, .p, .p, .p] (gA (hI.lies (rdS.flook hr0z rfl g184))) _ (bC g184 (bZ (bndEq hc187))) hI ?_
        clear hI
        intro _ hI
        exact hJ182 true _ _ ⟨_, at_, hI⟩ H
      · replace H := cond_some H
        rcases H with ⟨hc188, H⟩ | ⟨hc188, H⟩
        · refine dx [.p, .p, .x, .l 0 0, .p, .p, .c false, .p, .p, .x, .l 0 0, .p, .p, .p, .c true, .p, .p, .p, .p, .p, .p, .p, .p, .p, .p] (gA (hI.lies (rdS.flook hr0z rfl g184))) _ (bC g184 (bC (bndEq hc187) (bC g184 (bZ (bndEq hc188))))) hI ?_
          clear hI
          intro _ hI
          exact hJ182 true _ _ ⟨_, at_, hI⟩ H
        · replace H := must_some H
          obtain ⟨g189, H⟩ := H
          replace H := bind_some H
          obtain ⟨y194, hy195, H⟩ := H
          refine go_held (fun w => Inv M w []) (by kernel_rfl) ?_
          replace hI := hI.drew'
          refine hx (n := 4) [(0, .p), (1, .p), (2, .x), (3, .l 0 0), (4, .p), (5, .p), (6, .c false), (7, .p), (8, .p), (9, .x), (10, .l 0 0), (11, .p), (12, .p), (13, .p), (14, .c false), (15, .p), (16, .p), (18, .p), (19, .p), (20, .x), (21, .l 0 0)] (fun _ hS => (gA (hS.lies (rdS.flook hr0z rfl g184)))) hI _ (bC g184 (bC (bndEq hc187) (bC g184 (bC (bndEq hc188) (bZ g184))))) ?_
          refine ho (n := 3) 17 rfl (e_slice_ro tStr _ 37 9 _ _ _ _ (some ⟨b185, q186, none⟩) c0z a0 .i64 .i64 (0 : Int) x138 rfl (by kernel_rfl) (by kernel_rfl) (by kernel_rfl) rfl rfl rfl hr0z hl0z g189 ?_)
          intro A190 c191 hr192 hl193
          refine ⟨hI, ?_⟩
          refine ho (n := 2) 22 rfl (ec (enter64 _) (assizeref05zfind_calls A190 c191 (subl a0 (0 : Int) x138) (idx a0 x138) (memOf _) _ (Inv.start _) (hI.rd hr192) hl193 _ hy195) ?_)
          rintro _ _ ⟨rfl, hI'⟩
          replace hI := hI.call0 hI'
          clear hI'
          refine ⟨_, rfl, ?_⟩
          refine ⟨hI, ?_⟩
          refine hg (n := 0) [(23, .p), (24, .p)] (fun _ hS => gO) hI (hd ?_)
          exact hJ182 (decide (y194 ≥ 0)) _ _ ⟨_, at_, hI⟩ H
  · refine ge hc140 ?_
    refine go_exit rfl ?_
    refine go_seq (rp 4 ?_)
    replace H := out_some H
    obtain ⟨_, H, he1⟩ := H
    have he := (hout1 _ he1).symm
    subst he
    replace H := Option.some.inj H
    subst H
    exact gr Try.func53 ⟨rfl, hI⟩

/-! ### assizeref05zplaced -/
theorem enter54 (a : Array Value) : Sem.pureRun Try.prog (callFunc 54 a) = some (.enter 54 a) := by kernel_rfl
theorem assizeref05zplaced_calls (A0z : Option Addr) (c0z : Nat) (a0 : List Txn) (a1 : Int) (M : Mem) (w : World) (hI : Inv M w []) (hr0z : rdS kTxn M.blk A0z a0) (hl0z : a0.length ≤ c0z) (r : Bool) (H : assizeref05zplaced a0 a1 = some r) :
    Calls Try.prog 54 #[vS A0z a0.length c0z, vI a1] w fun e w' => e = .returned (vB r) ∧ Inv M w' [] := by
  refine cg Try.func54 ?_
  intro cs
  unfold assizeref05zplaced at H
  refine go_seq (rp 1 (go_seq (r_in ?_)))
  replace H := must_some H
  obtain ⟨g12, H⟩ := H
  obtain ⟨b16, q17, rfl, cs15, hk14, hg13⟩ := rdS.open hr0z rfl g12
  obtain ⟨_, _, rfl, rfl, ⟨_, _, rfl, rfl, ⟨_, _, rfl, rfl, ⟨_, _, rfl, rfl, ⟨A18, c19, rfl, hl21, hr20⟩⟩⟩⟩⟩ := hk14
  refine bx 0 [.p, .p, .x, .l 0 0] (gA (hI.lies hg13)) _ (bZ g12) (oe 4 rfl ?_)
  refine e_alloc 61 (.agg #[vI 0, vI 0, vI 0, vI 0, vS none 0 0]) [vI 0, vI 0, vI 0, vI 0, vS none 0 0] rfl (by kernel_rfl) rfl hI ?_
  clear hI
  intro b22 _ hI
  refine oe 5 rfl ?_
  refine e_store 61 _ _ 0 b22 61 [vI 0, vI 0, vI 0, vI 0, vS none 0 0] [vI ((idx a0 a1).Proc), vI ((idx a0 a1).Status), vI ((idx a0 a1).From), vI ((idx a0 a1).To), vS A18 (((idx a0 a1).Ops).length) c19] 0 (.agg #[vI ((idx a0 a1).Proc), vI ((idx a0 a1).Status), vI ((idx a0 a1).From), vI ((idx a0 a1).To), vS A18 (((idx a0 a1).Ops).length) c19]) rfl (by kernel_rfl) (by kernel_rfl) (by kernel_rfl) (by kernel_rfl) hI rfl (by kernel_rfl) (by kernel_rfl) ?_
  clear hI
  intro _ hI
  refine ro (go_seq ?_)
  refine go_seq_join (o := r) (fun b39 f w => ∃ (j : Nat → Value), f = updL j [(0, vS (some ⟨b16, q17, none⟩) a0.length c0z), (1, vI a1), (5, vP b22 0), (45, vB b39)] ∧ Inv M w [.blk b22 61 [vI ((idx a0 a1).Proc), vI ((idx a0 a1).Status), vI ((idx a0 a1).From), vI ((idx a0 a1).To), vS A18 (((idx a0 a1).Ops).length) c19]]) (fun b39 => assizeref05zplaced.j1 a0 a1 b39) ?_ (fun hJ40 => ?_)
  · clear H hI
    rintro b39 _ _ ⟨_, rfl, hI⟩ H
    replace H := cond_some H
    rcases H with ⟨hc41, H⟩ | ⟨hc41, H⟩
    · refine gt hc41 (go_seq (rp 1 ?_))
      replace H := Option.some.inj H
      subst H
      exact gr Try.func54 ⟨rfl, hI.pn⟩
    · refine ge hc41 (go_skip (go_seq ?_))
      refine go_seq_join (o := r) (fun b62 f w => ∃ (j : Nat → Value), f = updL j [(0, vS (some ⟨b16, q17, none⟩) a0.length c0z), (1, vI a1), (5, vP b22 0), (58, vB b62)] ∧ Inv M w [.blk b22 61 [vI ((idx a0 a1).Proc), vI ((idx a0 a1).Status), vI ((idx a0 a1).From), vI ((idx a0 a1).To), vS A18 (((idx a0 a1).Ops).length) c19]]) (fun b62 => assizeref05zplaced.j2 a0 a1 b62) ?_ (fun hJ63 => ?_)
      · clear H hI
        rintro b62 _ _ ⟨_, rfl, hI⟩ H
        replace H := cond_some H
        rcases H with ⟨hc64, H⟩ | ⟨hc64, H⟩
        · refine gt hc64 (go_seq (rp 1 ?_))
          replace H := Option.some.inj H
          subst H
          exact gr Try.func54 ⟨rfl, hI.pn⟩
        · refine ge hc64 (go_skip (go_seq (go_seq (rp 1 (go_block ?_)))))
          refine go_iter (assizeref05zplaced.s3 a0 a1) (fun x298 f w => ∃ (j : Nat → Value), f = updL j [(0, vS (some ⟨b16, q17, none⟩) a0.length c0z), (1, vI a1), (5, vP b22 0), (6, vI x298)] ∧ Inv M w [.blk b22 61 [vI ((idx a0 a1).Proc), vI ((idx a0 a1).Status), vI ((idx a0 a1).From), vI ((idx a0 a1).To), vS A18 (((idx a0 a1).Ops).length) c19]]) H ⟨_, at_, hI⟩ ?_
          clear H hI
          rintro x298 _ _ o1 H ⟨_, rfl, hI⟩ hin1 hout1
          refine go_seq (go_seq (rp 3 ?_))
          replace H := cond_some H
          rcases H with ⟨hc300, H⟩ | ⟨hc300, H⟩
          · refine gt hc300 (go_skip (go_seq (go_block ?_)))
            refine go_seq_join (o := o1) (fun b377 f w => ∃ (j : Nat → Value), f = updL j [(0, vS (some ⟨b16, q17, none⟩) a0.length c0z), (1, vI a1), (5, vP b22 0), (6, vI x298), (89, vB b377)] ∧ Inv M w [.blk b22 61 [vI ((idx a0 a1).Proc), vI ((idx a0 a1).Status), vI ((idx a0 a1).From), vI ((idx a0 a1).To), vS A18 (((idx a0 a1).Ops).length) c19]]) (fun b377 => assizeref05zplaced.j4 x298 b377) ?_ (fun hJ378 => ?_)
            · clear H hI
              rintro b377 _ _ ⟨_, rfl, hI⟩ H
              replace H := cond_some H
              rcases H with ⟨hc379, H⟩ | ⟨hc379, H⟩
              · refine gt hc379 (go_seq (rp 1 ?_))
                replace H := out_some H
                obtain ⟨_, H, he1⟩ := H
                have he := (hout1 _ he1).symm
                subst he
                replace H := Option.some.inj H
                subst H
                exact gr Try.func54 ⟨rfl, hI.pn⟩
              · refine ge hc379 (go_skip (go_inBlock (rp 3 ?_)))
                exact hin1 _ (Option.some.inj H).symm _ _ ⟨_, at_, hI⟩
            · replace H := must_some H
              obtain ⟨g380, H⟩ := H
              obtain ⟨cs383, hk382, hg381⟩ := rdS.look hr0z rfl g380
              obtain ⟨_, _, rfl, rfl, ⟨_, _, rfl, rfl, ⟨_, _, rfl, rfl, ⟨_, _, rfl, rfl, ⟨A384, c385, rfl, hl387, hr386⟩⟩⟩⟩⟩ := hk382
              replace H := cond_some H
              rcases H with ⟨hc388, H⟩ | ⟨hc388, H⟩
              · obtain ⟨cs391, hk390, hg389⟩ := rdS.look hr0z rfl g380
                obtain ⟨_, _, rfl, rfl, ⟨_, _, rfl, rfl, ⟨_, _, rfl, rfl, ⟨_, _, rfl, rfl, ⟨A392, c393, rfl, hl395, hr394⟩⟩⟩⟩⟩ := hk390
                replace H := cond_some H
                rcases H with ⟨hc396, H⟩ | ⟨hc396, H⟩
                · refine dx [.p, .p, .x, .p, .l 0 0, .p, .l 1 0, .p, .c true, .p, .p, .x, .p, .l 2 3, .p, .c true, .p, .p, .p, .p, .p, .p, .p, .p, .p, .p] (gC (hI.lies hg381) (hI.grp 0 rfl) (hI.lies hg389)) _ (bC g380 (bC (bndEq hc388) (bC g380 (bZ (bndEq hc396))))) hI ?_
                  clear hI
                  intro _ hI
                  exact hJ378 true _ _ ⟨_, at_, hI⟩ H
                · obtain ⟨cs399, hk398, hg397⟩ := rdS.look hr0z rfl g380
                  obtain ⟨_, _, rfl, rfl, ⟨_, _, rfl, rfl, ⟨_, _, rfl, rfl, ⟨_, _, rfl, rfl, ⟨A400, c401, rfl, hl403, hr402⟩⟩⟩⟩⟩ := hk398
                  refine dx [.p, .p, .x, .p, .l 0 0, .p, .l 1 0, .p, .c true, .p, .p, .x, .p, .l 2 3, .p, .c false, .p, .p, .x, .p, .l 3 3, .p, .l 1 2, .p, .p, .p] (gD (hI.lies hg381) (hI.grp 0 rfl) (hI.lies hg389) (hI.lies hg397)) _ (bC g380 (bC (bndEq hc388) (bC g380 (bC (bndEq hc396) (bZ g380))))) hI ?_
                  clear hI
                  intro _ hI
                  exact hJ378 (decide ((idx a0 x298).To ≥ (idx a0 a1).From)) _ _ ⟨_, at_, hI⟩ H
              · refine dx [.p, .p, .x, .p, .l 0 0, .p, .l 1 0, .p, .c false, .p, .p, .p, .p, .p, .p, .p, .p, .p, .p, .p, .p, .p, .p, .p, .p, .p] (gB (hI.lies hg381) (hI.grp 0 rfl)) _ (bC g380 (bZ (bndEq hc388))) hI ?_
                clear hI
                intro _ hI
                exact hJ378 false _ _ ⟨_, at_, hI⟩ H
          · refine ge hc300 ?_
            refine go_exit rfl ?_
            refine go_seq (rp 1 ?_)
            replace H := out_some H
            obtain ⟨_, H, he1⟩ := H
            have he := (hout1 _ he1).symm
            subst he
            replace H := Option.some.inj H
            subst H
            exact gr Try.func54 ⟨rfl, hI.pn⟩
      · replace H := cond_some H
        rcases H with ⟨hc404, H⟩ | ⟨hc404, H⟩
        · replace H := must_some H
          obtain ⟨g405, H⟩ := H
          obtain ⟨cs408, hk407, hg406⟩ := rdS.look hr0z rfl g405
          obtain ⟨_, _, rfl, rfl, ⟨_, _, rfl, rfl, ⟨_, _, rfl, rfl, ⟨_, _, rfl, rfl, ⟨A409, c410, rfl, hl412, hr411⟩⟩⟩⟩⟩ := hk407
          refine dx [.p, .p, .c true, .p, .l 0 2, .p, .p, .p, .x, .p, .l 1 2, .p, .p] (gB (hI.grp 0 rfl) (hI.lies hg406)) _ (bC (bndEq hc404) (bZ g405)) hI ?_
          clear hI
          intro _ hI
          exact hJ63 (decide ((idx a0 a1).From ≤ (idx a0 (w64 (a1 - 1))).From)) _ _ ⟨_, at_, hI⟩ H
        · refine dx [.p, .p, .c false, .p, .p, .p, .p, .p, .p, .p, .p, .p, .p] gO _ (bZ (bndEq hc404)) hI ?_
          clear hI
          intro _ hI
          exact hJ63 false _ _ ⟨_, at_, hI⟩ H
  · refine r_in ?_
    replace H := cond_some H
    rcases H with ⟨hc413, H⟩ | ⟨hc413, H⟩
    · refine bx 0 [.p, .l 0 1, .p, .c true, .p, .p, .p, .p, .p, .p, .p, .p, .p, .p, .p, .p, .p, .p, .p, .p, .p, .p, .p, .p, .p, .p, .p, .p, .p, .p, .p, .p, .p, .p, .p] (gA (hI.grp 0 rfl)) _ (bZ (bndEq hc413)) (ro ?_)
      exact hJ40 true _ _ ⟨_, at_, hI⟩ H
    · replace H := cond_some H
      rcases H with ⟨hc414, H⟩ | ⟨hc414, H⟩
      · refine bx 0 [.p, .l 0 1, .p, .c false, .p, .l 0 1, .p, .p, .c true, .p, .p, .p, .p, .p, .p, .p, .p, .p, .p, .p, .p, .p, .p, .p, .p, .p, .p, .p, .p, .p, .p, .p, .p, .p, .p] (gA (hI.grp 0 rfl)) _ (bC (bndEq hc413) (bZ (bndEq hc414))) (ro ?_)
        exact hJ40 true _ _ ⟨_, at_, hI⟩ H
      · replace H := cond_some H
        rcases H with ⟨hc415, H⟩ | ⟨hc415, H⟩
        · refine bx 0 [.p, .l 0 1, .p, .c false, .p, .l 0 1, .p, .p, .c false, .p, .l 0 2, .p, .p, .c true, .p, .p, .p, .p, .p, .p, .p, .p, .p, .p, .p, .p, .p, .p, .p, .p, .p, .p, .p, .p, .p] (gA (hI.grp 0 rfl)) _ (bC (bndEq hc413) (bC (bndEq hc414) (bZ (bndEq hc415)))) (ro ?_)
          exact hJ40 true _ _ ⟨_, at_, hI⟩ H
        · replace H := cond_some H
          rcases H with ⟨hc416, H⟩ | ⟨hc416, H⟩
          · replace H := cond_some H
            rcases H with ⟨hc417, H⟩ | ⟨hc417, H⟩
            · refine bx 0 [.p, .l 0 1, .p, .c false, .p, .l 0 1, .p, .p, .c false, .p, .l 0 2, .p, .p, .c false, .p, .l 0 3, .p, .c true, .p, .l 0 3, .p, .l 0 2, .p, .p, .p, .c true, .p, .p, .p, .p, .p, .p, .p, .p, .p] (gA (hI.grp 0 rfl)) _ (bC (bndEq hc413) (bC (bndEq hc414) (bC (bndEq hc415) (bC (bndEq hc416) (bZ (bndEq hc417)))))) (ro ?_)
              exact hJ40 true _ _ ⟨_, at_, hI⟩ H
            · replace H := cond_some H
              rcases H with ⟨hc418, H⟩ | ⟨hc418, H⟩
              · refine bx 0 [.p, .l 0 1, .p, .c false, .p, .l 0 1, .p, .p, .c false, .p, .l 0 2, .p, .p, .c false, .p, .l 0 3, .p, .c true, .p, .l 0 3, .p, .l 0 2, .p, .p, .p, .c false, .p, .l 0 3, .p, .c true, .p, .l 0 1, .p, .p, .p] (gA (hI.grp 0 rfl)) _ (bC (bndEq hc413) (bC (bndEq hc414) (bC (bndEq hc415) (bC (bndEq hc416) (bC (bndEq hc417) (bZ (bndEq hc418))))))) (ro ?_)
                exact hJ40 ((idx a0 a1).Status != 3) _ _ ⟨_, at_, hI⟩ H
              · refine bx 0 [.p, .l 0 1, .p, .c false, .p, .l 0 1, .p, .p, .c false, .p, .l 0 2, .p, .p, .c false, .p, .l 0 3, .p, .c true, .p, .l 0 3, .p, .l 0 2, .p, .p, .p, .c false, .p, .l 0 3, .p, .c false, .p, .p, .p, .p, .p] (gA (hI.grp 0 rfl)) _ (bC (bndEq hc413) (bC (bndEq hc414) (bC (bndEq hc415) (bC (bndEq hc416) (bC (bndEq hc417) (bZ (bndEq hc418))))))) (ro ?_)
                exact hJ40 false _ _ ⟨_, at_, hI⟩ H
          · replace H := cond_some H
            rcases H with ⟨hc419, H⟩ | ⟨hc419, H⟩
            · refine bx 0 [.p, .l 0 1, .p, .c false, .p, .l 0 1, .p, .p, .c false, .p, .l 0 2, .p, .p, .c false, .p, .l 0 3, .p, .c false, .p, .p, .p, .p, .p, .p, .p, .p, .p, .l 0 3, .p, .c true, .p, .l 0 1, .p, .p, .p] (gA (hI.grp 0 rfl)) _ (bC (bndEq hc413) (bC (bndEq hc414) (bC (bndEq hc415) (bC (bndEq hc416) (bZ (bndEq hc419)))))) (ro ?_)
              exact hJ40 ((idx a0 a1).Status != 3) _ _ ⟨_, at_, hI⟩ H
            · refine bx 0 [.p, .l 0 1, .p, .c false, .p, .l 0 1, .p, .p, .c false, .p, .l 0 2, .p, .p, .c false, .p, .l 0 3, .p, .c false, .p, .p, .p, .p, .p, .p, .p, .p, .p, .l 0 3, .p, .c false, .p, .p, .p, .p, .p] (gA (hI.grp 0 rfl)) _ (bC (bndEq hc413) (bC (bndEq hc414) (bC (bndEq hc415) (bC (bndEq hc416) (bZ (bndEq hc419)))))) (ro ?_)
              exact hJ40 false _ _ ⟨_, at_, hI⟩ H

/-! ### assizeref03zcall -/
theorem enter70 (a : Array Value) : Sem.pureRun Try.prog (callFunc 70 a) = some (.enter 70 a) := by kernel_rfl
theorem assizeref03zcall_calls (a0 : Call) (A0z0 : Option Addr) (c0z0 : Nat) (a1 : Int) (M : Mem) (w : World) (hI : Inv M w []) (hr0z0 : rdS (tInt .i64) M.blk A0z0 a0.Vals) (hl0z0 : a0.Vals.length ≤ c0z0) (r : Bool) (H : assizeref03zcall a0 a1 = some r) :
    Calls Try.prog 70 #[.agg #[vI a0.Kind, .string a0.Key, vI a0.Arg, vB a0.Got, vS A0z0 a0.Vals.length c0z0], vI a1] w fun e w' => e = .returned (vB r) ∧ Inv M w' [] := by
  refine cg Try.func70 ?_
  intro cs
  unfold assizeref03zcall at H
  refine go_seq (r_in (oe 0 rfl ?_))
  refine e_box 97 _ (.agg #[vI a0.Kind, .string a0.Key, vI a0.Arg, vB a0.Got, vS A0z0 a0.Vals.length c0z0]) [vI a0.Kind, .string a0.Key, vI a0.Arg, vB a0.Got, vS A0z0 a0.Vals.length c0z0] rfl (by kernel_rfl) rfl hI ?_
  clear hI
  intro b2 _ hI
  refine bp 1 1 (ro (go_seq ?_))
  refine go_seq_join (o := r) (fun b11 f w => ∃ (j : Nat → Value), f = updL j [(1, vI a1), (2, vP b2 0), (25, vB b11)] ∧ Inv M w [.blk b2 97 [vI a0.Kind, .string a0.Key, vI a0.Arg, vB a0.Got, vS A0z0 a0.Vals.length c0z0]]) (fun b11 => assizeref03zcall.j1 a0 a1 b11) ?_ (fun hJ12 => ?_)
  · clear H hI
    rintro b11 _ _ ⟨_, rfl, hI⟩ H
    replace H := cond_some H
    rcases H with ⟨hc13, H⟩ | ⟨hc13, H⟩
    · refine gt hc13 (go_seq (rp 1 ?_))
      replace H := Option.some.inj H
      subst H
      exact gr Try.func70 ⟨rfl, hI.pn⟩
    · refine ge hc13 (go_skip (go_seq (go_seq (rg [.p, .l 0 0, .p] (gA (hI.grp 0 rfl)) ?_))))
      replace H := cond_some H
      rcases H with ⟨hc20, H⟩ | ⟨hc20, H⟩
      · refine gt hc20 (go_seq (r_in ?_))
        replace H := cond_some H
        rcases H with ⟨hc25, H⟩ | ⟨hc25, H⟩
        · replace H := cond_some H
          rcases H with ⟨hc26, H⟩ | ⟨hc26, H⟩
          · replace H := cond_some H
            rcases H with ⟨hc27, H⟩ | ⟨hc27, H⟩
            · refine bx 0 [.p, .l 0 3, .p, .c true, .p, .l 0 4, .p, .p, .p, .c true, .p, .l 0 0, .p, .c true, .p, .p, .p, .p, .p, .p, .p, .p, .p, .p, .p] (gA (hI.grp 0 rfl)) _ (bC (bndEq hc25) (bC (bndEq hc26) (bZ (bndEq hc27)))) (ro ?_)
              replace H := Option.some.inj H
              subst H
              exact gr Try.func70 ⟨rfl, hI.pn⟩
            · replace H := cond_some H
              rcases H with ⟨hc28, H⟩ | ⟨hc28, H⟩
              · refine bx 0 [.p, .l 0 3, .p, .c true, .p, .l 0 4, .p, .p, .p, .c true, .p, .l 0 0, .p, .c false, .p, .l 0 2, .p, .c true, .p, .l 0 2, .p, .p, .p, .p, .p] (gA (hI.grp 0 rfl)) _ (bC (bndEq hc25) (bC (bndEq hc26) (bC (bndEq hc27) (bZ (bndEq hc28))))) (ro ?_)
                replace H := Option.some.inj H
                subst H
                exact gr Try.func70 ⟨rfl, hI.pn⟩
              · refine bx 0 [.p, .l 0 3, .p, .c true, .p, .l 0 4, .p, .p, .p, .c true, .p, .l 0 0, .p, .c false, .p, .l 0 2, .p, .c false, .p, .p, .p, .p, .p, .p, .p] (gA (hI.grp 0 rfl)) _ (bC (bndEq hc25) (bC (bndEq hc26) (bC (bndEq hc27) (bZ (bndEq hc28))))) (ro ?_)
                replace H := Option.some.inj H
                subst H
                exact gr Try.func70 ⟨rfl, hI.pn⟩
          · refine bx 0 [.p, .l 0 3, .p, .c true, .p, .l 0 4, .p, .p, .p, .c false, .p, .p, .p, .p, .p, .p, .p, .p, .p, .p, .p, .p, .p, .p, .p] (gA (hI.grp 0 rfl)) _ (bC (bndEq hc25) (bZ (bndEq hc26))) (ro ?_)
            replace H := Option.some.inj H
            subst H
            exact gr Try.func70 ⟨rfl, hI.pn⟩
        · refine bx 0 [.p, .l 0 3, .p, .c false, .p, .p, .p, .p, .p, .p, .p, .p, .p, .p, .p, .p, .p, .p, .p, .p, .p, .p, .p, .p, .p] (gA (hI.grp 0 rfl)) _ (bZ (bndEq hc25)) (ro ?_)
          replace H := Option.some.inj H
          subst H
          exact gr Try.func70 ⟨rfl, hI.pn⟩
      · refine ge hc20 (go_skip (go_seq ?_))
        refine go_seq_join (o := r) (fun b37 f w => ∃ (j : Nat → Value), f = updL j [(2, vP b2 0), (73, vB b37)] ∧ Inv M w [.blk b2 97 [vI a0.Kind, .string a0.Key, vI a0.Arg, vB a0.Got, vS A0z0 a0.Vals.length c0z0]]) (fun b37 => assizeref03zcall.j2 a0 b37) ?_ (fun hJ38 => ?_)
        · clear H hI
          rintro b37 _ _ ⟨_, rfl, hI⟩ H
          replace H := cond_some H
          rcases H with ⟨hc39, H⟩ | ⟨hc39, H⟩
          · refine gt hc39 (go_seq (rp 1 ?_))
            replace H := Option.some.inj H
            subst H
            exact gr Try.func70 ⟨rfl, hI.pn⟩
          · refine ge hc39 (go_skip (go_seq (go_seq (rg [.p, .l 0 0] (gA (hI.grp 0 rfl)) ?_))))
            refine go_block_join (o := r) (fun (_ : Unit) f w => ∃ (j : Nat → Value), f = updL j [(2, vP b2 0)] ∧ Inv M w [.blk b2 97 [vI a0.Kind, .string a0.Key, vI a0.Arg, vB a0.Got, vS A0z0 a0.Vals.length c0z0]]) (fun (_ : Unit) => assizeref03zcall.j3 a0) ?_ (fun hJ98 => ?_)
            · clear H hI
              rintro ⟨⟩ _ _ ⟨_, rfl, hI⟩ H
              refine go_seq (rg [.p, .l 0 4, .p, .p, .p] (gA (hI.grp 0 rfl)) ?_)
              replace H := Option.some.inj H
              subst H
              exact gr Try.func70 ⟨rfl, hI.pn⟩
            · refine go_seq (rp 2 ?_)
              replace H := cond_some H
              rcases H with ⟨hc99, H⟩ | ⟨hc99, H⟩
              · refine gt hc99 (go_seq (rg [.p, .l 0 4, .p, .p, .p] (gA (hI.grp 0 rfl)) ?_))
                replace H := Option.some.inj H
                subst H
                exact gr Try.func70 ⟨rfl, hI.pn⟩
              · refine ge hc99 (go_seq (rp 2 ?_))
                replace H := cond_some H
                rcases H with ⟨hc100, H⟩ | ⟨hc100, H⟩
                · refine gt hc100 (go_seq (r_in ?_))
                  replace H := cond_some H
                  rcases H with ⟨hc102, H⟩ | ⟨hc102, H⟩
                  · refine bx 0 [.p, .l 0 3, .p, .c true, .p, .p, .p, .p, .p, .p] (gA (hI.grp 0 rfl)) _ (bZ (bndEq hc102)) (ro ?_)
                    replace H := Option.some.inj H
                    subst H
                    exact gr Try.func70 ⟨rfl, hI.pn⟩
                  · refine bx 0 [.p, .l 0 3, .p, .c false, .p, .l 0 4, .p, .p, .p, .p] (gA (hI.grp 0 rfl)) _ (bZ (bndEq hc102)) (ro ?_)
                    replace H := Option.some.inj H
                    subst H
                    exact gr Try.func70 ⟨rfl, hI.pn⟩
                · refine ge hc100 (go_seq (rp 2 ?_))
                  replace H := cond_some H
                  rcases H with ⟨hc103, H⟩ | ⟨hc103, H⟩
                  · refine gt hc103 (go_seq (rp 1 (go_block ?_)))
                    refine go_iter (assizeref03zcall.s4 a0) (fun x145 f w => ∃ (j : Nat → Value), f = updL j [(2, vP b2 0), (5, vI x145)] ∧ Inv M w [.blk b2 97 [vI a0.Kind, .string a0.Key, vI a0.Arg, vB a0.Got, vS A0z0 a0.Vals.length c0z0]]) H ⟨_, at_, hI⟩ ?_
                    clear H hI
                    rintro x145 _ _ o1 H ⟨_, rfl, hI⟩ hin1 hout1
                    refine go_seq (go_seq (rg [.p, .p, .l 0 4, .p, .p] (gA (hI.grp 0 rfl)) ?_))
                    replace H := cond_some H
                    rcases H with ⟨hc147, H⟩ | ⟨hc147, H⟩
                    · refine gt hc147 (go_skip (go_seq (go_block (go_seq ?_))))
                      replace H := must_some H
                      obtain ⟨g162, H⟩ := H
                      obtain ⟨b163, q164, rfl, _⟩ := rdS.fopen hr0z0 rfl g162
                      replace H := must_some H
                      obtain ⟨g165, H⟩ := H
                      refine dx [.p, .l 0 4, .p, .x, .l 1 0, .p, .l 0 4, .p, .p, .x, .l 2 0, .p] (gC (hI.grp 0 rfl) (hI.lies (rdS.flook hr0z0 rfl g162)) (hI.lies (rdS.flook hr0z0 rfl g165))) _ (bC g162 (bZ g165)) hI ?_
                      clear hI
                      intro _ hI
                      replace H := cond_some H
                      rcases H with ⟨hc166, H⟩ | ⟨hc166, H⟩
                      · refine gt hc166 (go_seq (rp 1 ?_))
                        replace H := out_some H
                        obtain ⟨_, H, he1⟩ := H
                        have he := (hout1 _ he1).symm
                        subst he
                        replace H := Option.some.inj H
                        subst H
                        exact gr Try.func70 ⟨rfl, hI.pn⟩
                      · refine ge hc166 (go_skip (go_inBlock (rp 3 ?_)))
                        exact hin1 _ (Option.some.inj H).symm _ _ ⟨_, at_, hI⟩
                    · refine ge hc147 ?_
                      refine go_exit rfl ?_
                      refine go_inBlock ?_
                      replace H := out_some H
                      obtain ⟨_, H, he1⟩ := H
                      have he := (hout1 _ he1).symm
                      subst he
                      exact hJ98 () _ _ ⟨_, at_, hI⟩ H
                  · refine ge hc103 (go_skip (go_inBlock ?_))
                    exact hJ98 () _ _ ⟨_, at_, hI⟩ H
        · refine r_in ?_
          replace H := cond_some H
          rcases H with ⟨hc167, H⟩ | ⟨hc167, H⟩
          · refine bx 0 [.p, .l 0 2, .p, .c true, .p, .p, .p, .p, .p, .p, .p, .p, .p, .p, .p, .p, .p, .p, .p, .p, .p] (gA (hI.grp 0 rfl)) _ (bZ (bndEq hc167)) (ro ?_)
            exact hJ38 true _ _ ⟨_, at_, hI⟩ H
          · replace H := cond_some H
            rcases H with ⟨hc168, H⟩ | ⟨hc168, H⟩
            · refine bx 0 [.p, .l 0 2, .p, .c false, .p, .l 0 3, .p, .p, .p, .p, .c true, .p, .p, .p, .p, .p, .p, .p, .p, .p, .p] (gA (hI.grp 0 rfl)) _ (bC (bndEq hc167) (bZ (bndEq hc168))) (ro ?_)
              exact hJ38 true _ _ ⟨_, at_, hI⟩ H
            · replace H := cond_some H
              rcases H with ⟨hc169, H⟩ | ⟨hc169, H⟩
              · refine bx 0 [.p, .l 0 2, .p, .c false, .p, .l 0 3, .p, .p, .p, .p, .c false, .p, .l 0 3, .p, .c true, .p, .l 0 4, .p, .p, .p, .p] (gA (hI.grp 0 rfl)) _ (bC (bndEq hc167) (bC (bndEq hc168) (bZ (bndEq hc169)))) (ro ?_)
                exact hJ38 (decide ((a0.Vals.length : Int) > 0)) _ _ ⟨_, at_, hI⟩ H
              · refine bx 0 [.p, .l 0 2, .p, .c false, .p, .l 0 3, .p, .p, .p, .p, .c false, .p, .l 0 3, .p, .c false, .p, .p, .p, .p, .p, .p] (gA (hI.grp 0 rfl)) _ (bC (bndEq hc167) (bC (bndEq hc168) (bZ (bndEq hc169)))) (ro ?_)
                exact hJ38 false _ _ ⟨_, at_, hI⟩ H
  · refine r_in ?_
    replace H := cond_some H
    rcases H with ⟨hc170, H⟩ | ⟨hc170, H⟩
    · refine bx 0 [.p, .l 0 0, .p, .c true, .p, .p, .p, .p, .p, .p, .p, .p, .p, .p, .p, .p, .p, .p, .p, .p] (gA (hI.grp 0 rfl)) _ (bZ (bndEq hc170)) (ro ?_)
      exact hJ12 true _ _ ⟨_, at_, hI⟩ H
    · replace H := cond_some H
      rcases H with ⟨hc171, H⟩ | ⟨hc171, H⟩
      · refine bx 0 [.p, .l 0 0, .p, .c false, .p, .l 0 0, .p, .p, .c true, .p, .p, .p, .p, .p, .p, .p, .p, .p, .p, .p] (gA (hI.grp 0 rfl)) _ (bC (bndEq hc170) (bZ (bndEq hc171))) (ro ?_)
        exact hJ12 true _ _ ⟨_, at_, hI⟩ H
      · replace H := cond_some H
        rcases H with ⟨hc172, H⟩ | ⟨hc172, H⟩
        · refine bx 0 [.p, .l 0 0, .p, .c false, .p, .l 0 0, .p, .p, .c false, .p, .l 0 1, .p, .p, .p, .c true, .p, .p, .p, .p, .p] (gA (hI.grp 0 rfl)) _ (bC (bndEq hc170) (bC (bndEq hc171) (bZ (bndEq hc172)))) (ro ?_)
          exact hJ12 true _ _ ⟨_, at_, hI⟩ H
        · refine bx 0 [.p, .l 0 0, .p, .c false, .p, .l 0 0, .p, .p, .c false, .p, .l 0 1, .p, .p, .p, .c false, .p, .l 0 1, .p, .p, .p] (gA (hI.grp 0 rfl)) _ (bC (bndEq hc170) (bC (bndEq hc171) (bZ (bndEq hc172)))) (ro ?_)
          exact hJ12 (decide ((a0.Key.size : Int) > 32)) _ _ ⟨_, at_, hI⟩ H

/-! ### assizeref03zsound -/
theorem enter65 (a : Array Value) : Sem.pureRun Try.prog (callFunc 65 a) = some (.enter 65 a) := by kernel_rfl
theorem assizeref03zsound_calls (a0 : Event) (A0z0 : Option Addr) (c0z0 : Nat) (M : Mem) (w : World) (hI : Inv M w []) (hr0z0 : rdS kCall M.blk A0z0 a0.Calls) (hl0z0 : a0.Calls.length ≤ c0z0) (r : Bool) (H : assizeref03zsound a0 = some r) :
    Calls Try.prog 65 #[.agg #[vI a0.Proc, vI a0.Kind, vS A0z0 a0.Calls.length c0z0]] w fun e w' => e = .returned (vB r) ∧ Inv M w' [] := by
  refine cg Try.func65 ?_
  intro cs
  unfold assizeref03zsound at H
  refine go_seq (r_in (oe 0 rfl ?_))
  refine e_box 92 _ (.agg #[vI a0.Proc, vI a0.Kind, vS A0z0 a0.Calls.length c0z0]) [vI a0.Proc, vI a0.Kind, vS A0z0 a0.Calls.length c0z0] rfl (by kernel_rfl) rfl hI ?_
  clear hI
  intro b2 _ hI
  refine bp 1 1 (ro (go_seq ?_))
  refine go_seq_join (o := r) (fun b9 f w => ∃ (j : Nat → Value), f = updL j [(1, vP b2 0), (17, vB b9)] ∧ Inv M w [.blk b2 92 [vI a0.Proc, vI a0.Kind, vS A0z0 a0.Calls.length c0z0]]) (fun b9 => assizeref03zsound.j1 a0 b9) ?_ (fun hJ10 => ?_)
  · clear H hI
    rintro b9 _ _ ⟨_, rfl, hI⟩ H
    replace H := cond_some H
    rcases H with ⟨hc11, H⟩ | ⟨hc11, H⟩
    · refine gt hc11 (go_seq (rp 1 ?_))
      replace H := Option.some.inj H
      subst H
      exact gr Try.func65 ⟨rfl, hI.pn⟩
    · refine ge hc11 (go_skip (go_seq (go_seq (rp 1 (go_block ?_)))))
      refine go_iter (assizeref03zsound.s2 a0) (fun x141 f w => ∃ (j : Nat → Value), f = updL j [(1, vP b2 0), (3, vI x141)] ∧ Inv M w [.blk b2 92 [vI a0.Proc, vI a0.Kind, vS A0z0 a0.Calls.length c0z0]]) H ⟨_, at_, hI⟩ ?_
      clear H hI
      rintro x141 _ _ o1 H ⟨_, rfl, hI⟩ hin1 hout1
      refine go_seq (go_seq (rg [.p, .p, .l 0 2, .p, .p] (gA (hI.grp 0 rfl)) ?_))
      replace H := cond_some H
      rcases H with ⟨hc143, H⟩ | ⟨hc143, H⟩
      · refine gt hc143 (go_skip (go_seq (go_block (go_seq ?_))))
        replace H := must_some H
        obtain ⟨g182, H⟩ := H
        obtain ⟨b186, q187, rfl, cs185, hk184, hg183⟩ := rdS.open hr0z0 rfl g182
        obtain ⟨_, _, rfl, rfl, ⟨_, _, rfl, rfl, ⟨_, _, rfl, rfl, ⟨_, _, rfl, rfl, ⟨A188, c189, rfl, hl191, hr190⟩⟩⟩⟩⟩ := hk184
        replace H := bind_some H
        obtain ⟨y192, hy193, H⟩ := H
        refine go_held (fun w => Inv M w [.blk b2 92 [vI a0.Proc, vI a0.Kind, vS (some ⟨b186, q187, none⟩) a0.Calls.length c0z0]]) (by kernel_rfl) ?_
        replace hI := hI.drew'
        refine hx (n := 2) [(0, .p), (1, .l 0 2), (2, .p), (3, .x), (4, .l 1 0), (5, .p), (6, .l 0 1)] (fun _ hS => (gB (hS.grp 0 rfl) (hS.lies hg183))) hI _ (bZ g182) ?_
        refine ho (n := 1) 7 rfl (ec (enter70 _) (assizeref03zcall_calls (idx a0.Calls x141) A188 c189 a0.Kind (memOf _) _ (Inv.start _) (hI.rd hr190) hl191 _ hy193) ?_)
        rintro _ _ ⟨rfl, hI'⟩
        replace hI := hI.call0 hI'
        clear hI'
        refine ⟨_, rfl, ?_⟩
        refine ⟨hI, ?_⟩
        refine hg (n := 0) [(8, .p)] (fun _ hS => gO) hI (hd ?_)
        replace H := cond_some H
        rcases H with ⟨hc194, H⟩ | ⟨hc194, H⟩
        · refine gt hc194 (go_seq (rp 1 ?_))
          replace H := out_some H
          obtain ⟨_, H, he1⟩ := H
          have he := (hout1 _ he1).symm
          subst he
          replace H := Option.some.inj H
          subst H
          exact gr Try.func65 ⟨rfl, hI.pn⟩
        · refine ge hc194 (go_skip (go_inBlock (rp 3 ?_)))
          exact hin1 _ (Option.some.inj H).symm _ _ ⟨_, at_, hI⟩
      · refine ge hc143 ?_
        refine go_exit rfl ?_
        refine go_seq (rp 1 ?_)
        replace H := out_some H
        obtain ⟨_, H, he1⟩ := H
        have he := (hout1 _ he1).symm
        subst he
        replace H := Option.some.inj H
        subst H
        exact gr Try.func65 ⟨rfl, hI.pn⟩
  · refine r_in ?_
    replace H := cond_some H
    rcases H with ⟨hc195, H⟩ | ⟨hc195, H⟩
    · refine bx 0 [.p, .l 0 1, .p, .c true, .p, .p, .p, .p, .p, .p, .p, .p, .p, .p] (gA (hI.grp 0 rfl)) _ (bZ (bndEq hc195)) (ro ?_)
      exact hJ10 true _ _ ⟨_, at_, hI⟩ H
    · replace H := cond_some H
      rcases H with ⟨hc196, H⟩ | ⟨hc196, H⟩
      · refine bx 0 [.p, .l 0 1, .p, .c false, .p, .l 0 1, .p, .p, .c true, .p, .p, .p, .p, .p] (gA (hI.grp 0 rfl)) _ (bC (bndEq hc195) (bZ (bndEq hc196))) (ro ?_)
        exact hJ10 true _ _ ⟨_, at_, hI⟩ H
      · refine bx 0 [.p, .l 0 1, .p, .c false, .p, .l 0 1, .p, .p, .c false, .p, .l 0 2, .p, .p, .p] (gA (hI.grp 0 rfl)) _ (bC (bndEq hc195) (bZ (bndEq hc196))) (ro ?_)
        exact hJ10 (decide ((a0.Calls.length : Int) > 16)) _ _ ⟨_, at_, hI⟩ H

/-! ### assizeref03zCheck -/
theorem enter55 (a : Array Value) : Sem.pureRun Try.prog (callFunc 55 a) = some (.enter 55 a) := by kernel_rfl
theorem assizeref03zCheck_calls (A0z : Option Addr) (c0z : Nat) (a0 : List Event) (M : Mem) (w : World) (hI : Inv M w []) (hr0z : rdS kEvent M.blk A0z a0) (hl0z : a0.length ≤ c0z) (r : Int) (H : assizeref03zCheck a0 = some r) :
    Calls Try.prog 55 #[vS A0z a0.length c0z] w fun e w' => e = .returned (vI r) ∧ Inv M w' [] := by
  refine cg Try.func55 ?_
  intro cs
  unfold assizeref03zCheck at H
  refine go_seq (rp 1 (go_seq (go_seq (rp 3 ?_))))
  replace H := cond_some H
  rcases H with ⟨hc2, H⟩ | ⟨hc2, H⟩
  · refine gt hc2 (go_seq (rp 1 ?_))
    replace H := Option.some.inj H
    subst H
    exact gr Try.func55 ⟨rfl, hI⟩
  · refine ge hc2 (go_skip (go_seq (go_seq (rp 1 (go_block ?_)))))
    refine go_iter (assizeref03zCheck.s1 a0) (fun x132 f w => ∃ (j : Nat → Value), f = updL j [(0, vS A0z a0.length c0z), (3, vI x132)] ∧ Inv M w []) H ⟨_, at_, hI⟩ ?_
    clear H hI
    rintro x132 _ _ o1 H ⟨_, rfl, hI⟩ hin1 hout1
    refine go_seq (go_seq (rp 4 ?_))
    replace H := cond_some H
    rcases H with ⟨hc134, H⟩ | ⟨hc134, H⟩
    · refine gt hc134 (go_skip (go_seq (go_block (go_seq (r_in ?_)))))
      replace H := must_some H
      obtain ⟨g173, H⟩ := H
      obtain ⟨b177, q178, rfl, cs176, hk175, hg174⟩ := rdS.open hr0z rfl g173
      obtain ⟨_, _, rfl, rfl, ⟨_, _, rfl, rfl, ⟨A179, c180, rfl, hl182, hr181⟩⟩⟩ := hk175
      refine bx 0 [.p, .p, .x, .l 0 0] (gA (hI.lies hg174)) _ (bZ g173) ?_
      replace H := bind_some H
      obtain ⟨y183, hy184, H⟩ := H
      refine oe 4 rfl ?_
      refine ec (enter65 _) (assizeref03zsound_calls (idx a0 x132) A179 c180 (memOf _) _ (Inv.start _) (hI.rd hr181) hl182 _ hy184) ?_
      rintro _ _ ⟨rfl, hI'⟩
      replace hI := hI.call0 hI'
      clear hI'
      refine ⟨_, rfl, ?_⟩
      refine bp 5 1 (ro ?_)
      replace H := cond_some H
      rcases H with ⟨hc185, H⟩ | ⟨hc185, H⟩
      · refine gt hc185 (go_seq (rp 1 ?_))
        replace H := out_some H
        obtain ⟨_, H, he1⟩ := H
        have he := (hout1 _ he1).symm
        subst he
        replace H := Option.some.inj H
        subst H
        exact gr Try.func55 ⟨rfl, hI⟩
      · refine ge hc185 (go_skip (go_inBlock (rp 3 ?_)))
        exact hin1 _ (Option.some.inj H).symm _ _ ⟨_, at_, hI⟩
    · refine ge hc134 ?_
      refine go_exit rfl ?_
      refine go_seq (rp 1 ?_)
      replace H := out_some H
      obtain ⟨_, H, he1⟩ := H
      have he := (hout1 _ he1).symm
      subst he
      replace H := Option.some.inj H
      subst H
      exact gr Try.func55 ⟨rfl, hI⟩

/-! ### assizeref05zOf -/
theorem enter58 (a : Array Value) : Sem.pureRun Try.prog (callFunc 58 a) = some (.enter 58 a) := by kernel_rfl
theorem assizeref05zOf_calls (a0 : Int) (M : Mem) (w : World) (hI : Inv M w []) (r : Int) (H : assizeref05zOf a0 = some r) :
    Calls Try.prog 58 #[vI a0] w fun e w' => e = .returned (vI r) ∧ Inv M w' [] := by
  refine cg Try.func58 ?_
  intro cs
  unfold assizeref05zOf at H
  refine go_seq (rp 1 (go_seq (rp 5 ?_)))
  replace H := Option.some.inj H
  subst H
  exact gr Try.func58 ⟨rfl, hI⟩

/-! ### assizeref05zbook_enter -/
theorem enter56 (a : Array Value) : Sem.pureRun Try.prog (callFunc 56 a) = some (.enter 56 a) := by kernel_rfl
theorem assizeref05zbook_enter_calls (b0z : Nat) (a0 : Assizeref05Book) (A0z0 : Option Addr) (c0z0 : Nat) (A0z1 : Option Addr) (c0z1 : Nat) (A0z2 : Option Addr) (c0z2 : Nat) (A0z3 : Option Addr) (c0z3 : Nat) (A0z4 : Option Addr) (c0z4 : Nat) (a1 : Call) (A1z0 : Option Addr) (c1z0 : Nat) (a2 : Int) (M : Mem) (w : World) (hI : Inv M w [.blk b0z 106 [vS A0z0 a0.keys.length c0z0, vS A0z1 a0.types.length c0z1, vS A0z2 a0.wrote.length c0z2, vS A0z3 a0.incs.length c0z3, vS A0z4 a0.last_.length c0z4], .row tStr 9 A0z0 a0.keys.length c0z0 a0.keys, .row (tInt .i64) 3 A0z1 a0.types.length c0z1 a0.types, .row (tSlice 2 (tInt .i64)) 22 A0z2 a0.wrote.length c0z2 a0.wrote, .row (tInt .i64) 3 A0z3 a0.incs.length c0z3 a0.incs, .row (tInt .i64) 3 A0z4 a0.last_.length c0z4 a0.last_]) (hr1z0 : rdS (tInt .i64) M.blk A1z0 a1.Vals) (hl1z0 : a1.Vals.length ≤ c1z0) (r : Int × Assizeref05Book) (H : assizeref05zbook_enter a0 a1 a2 = some r) :
    Calls Try.prog 56 #[vP b0z 0, .agg #[vI a1.Kind, .string a1.Key, vI a1.Arg, vB a1.Got, vS A1z0 a1.Vals.length c1z0], vI a2] w fun e w' => ∃ (A696 : Option Addr), ∃ (c697 : Nat), ∃ (A698 : Option Addr), ∃ (c699 : Nat), ∃ (A700 : Option Addr), ∃ (c701 : Nat), ∃ (A702 : Option Addr), ∃ (c703 : Nat), ∃ (A704 : Option Addr), ∃ (c705 : Nat), e = .returned (vI r.1) ∧ Inv M w' [.blk b0z 106 [vS A696 r.2.keys.length c697, vS A698 r.2.types.length c699, vS A700 r.2.wrote.length c701, vS A702 r.2.incs.length c703, vS A704 r.2.last_.length c705], .row tStr 9 A696 r.2.keys.length c697 r.2.keys, .row (tInt .i64) 3 A698 r.2.types.length c699 r.2.types, .row (tSlice 2 (tInt .i64)) 22 A700 r.2.wrote.length c701 r.2.wrote, .row (tInt .i64) 3 A702 r.2.incs.length c703 r.2.incs, .row (tInt .i64) 3 A704 r.2.last_.length c705 r.2.last_] := by
  refine cg Try.func56 ?_
  intro cs
  unfold assizeref05zbook_enter at H
  refine go_seq (r_in (oe 0 rfl ?_))
  refine e_box 97 _ (.agg #[vI a1.Kind, .string a1.Key, vI a1.Arg, vB a1.Got, vS A1z0 a1.Vals.length c1z0]) [vI a1.Kind, .string a1.Key, vI a1.Arg, vB a1.Got, vS A1z0 a1.Vals.length c1z0] rfl (by kernel_rfl) rfl hI ?_
  clear hI
  intro b2 _ hI
  refine bp 1 1 (ro (go_seq ?_))
  replace H := bind_some H
  obtain ⟨y5, hy6, H⟩ := H
  refine go_held (fun w => Inv M w [.blk b0z 106 [vS A0z0 a0.keys.length c0z0, vS A0z1 a0.types.length c0z1, vS A0z2 a0.wrote.length c0z2, vS A0z3 a0.incs.length c0z3, vS A0z4 a0.last_.length c0z4], .row tStr 9 A0z0 a0.keys.length c0z0 a0.keys, .row (tInt .i64) 3 A0z1 a0.types.length c0z1 a0.types, .row (tSlice 2 (tInt .i64)) 22 A0z2 a0.wrote.length c0z2 a0.wrote, .row (tInt .i64) 3 A0z3 a0.incs.length c0z3 a0.incs, .row (tInt .i64) 3 A0z4 a0.last_.length c0z4 a0.last_, .blk b2 97 [vI a1.Kind, .string a1.Key, vI a1.Arg, vB a1.Got, vS A1z0 a1.Vals.length c1z0]]) (by kernel_rfl) ?_
  replace hI := hI.drew'
  refine hg (n := 2) [(0, .p), (1, .p), (2, .p), (3, .l 0 0), (4, .p), (5, .l 1 1)] (fun _ hS => (gB (hS.grp 0 rfl) (hS.grp 6 rfl))) hI ?_
  refine ho (n := 1) 6 rfl (ec (enter64 _) (assizeref05zfind_calls A0z0 c0z0 a0.keys a1.Key (memOf _) _ (Inv.start _) (hI.row 1 rfl) (hI.rowle 1 rfl) _ hy6) ?_)
  rintro _ _ ⟨rfl, hI'⟩
  replace hI := hI.call0 hI'
  clear hI'
  refine ⟨_, rfl, ?_⟩
  refine ⟨hI, ?_⟩
  refine hg (n := 0) [(7, .p)] (fun _ hS => gO) hI (hd ?_)
  refine go_seq_join (o := r) (fun (l81, l84, l87, l90, l93, x96) f w => ∃ (j : Nat → Value) (A82 : Option Addr) (c83 : Nat) (A85 : Option Addr) (c86 : Nat) (A88 : Option Addr) (c89 : Nat) (A91 : Option Addr) (c92 : Nat) (A94 : Option Addr) (c95 : Nat), f = updL j [(0, vP b0z 0), (2, vI a2), (4, vP b2 0), (7, vI x96)] ∧ Inv M w [.blk b0z 106 [vS A82 l81.length c83, vS A85 l84.length c86, vS A88 l87.length c89, vS A91 l90.length c92, vS A94 l93.length c95], .row tStr 9 A82 l81.length c83 l81, .row (tInt .i64) 3 A85 l84.length c86 l84, .row (tSlice 2 (tInt .i64)) 22 A88 l87.length c89 l87, .row (tInt .i64) 3 A91 l90.length c92 l90, .row (tInt .i64) 3 A94 l93.length c95 l93, .blk b2 97 [vI a1.Kind, .string a1.Key, vI a1.Arg, vB a1.Got, vS A1z0 a1.Vals.length c1z0]]) (fun (l81, l84, l87, l90, l93, x96) => assizeref05zbook_enter.j1 a1 a2 l81 l84 l87 l90 l93 x96) ?_ (fun hJ97 => ?_)
  · clear H hI
    rintro ⟨l81, l84, l87, l90, l93, x96⟩ _ _ ⟨_, A82, c83, A85, c86, A88, c89, A91, c92, A94, c95, rfl, hI⟩ H
    refine go_seq (go_seq ?_)
    replace H := must_some H
    obtain ⟨g107, H⟩ := H
    obtain ⟨b108, rfl⟩ := hI.rowAt 2 rfl g107
    replace H := bind_some H
    obtain ⟨y109, hy110, H⟩ := H
    refine go_held (fun w => Inv M w [.blk b0z 106 [vS A82 l81.length c83, vS (some ⟨b108, 0, none⟩) l84.length c86, vS A88 l87.length c89, vS A91 l90.length c92, vS A94 l93.length c95], .row tStr 9 A82 l81.length c83 l81, .row (tInt .i64) 3 (some ⟨b108, 0, none⟩) l84.length c86 l84, .row (tSlice 2 (tInt .i64)) 22 A88 l87.length c89 l87, .row (tInt .i64) 3 A91 l90.length c92 l90, .row (tInt .i64) 3 A94 l93.length c95 l93, .blk b2 97 [vI a1.Kind, .string a1.Key, vI a1.Arg, vB a1.Got, vS A1z0 a1.Vals.length c1z0]]) (by kernel_rfl) ?_
    replace hI := hI.drew'
    refine hx (n := 2) [(0, .p), (1, .p), (2, .p), (3, .l 0 1), (4, .p), (5, .x), (6, .l 1 0), (7, .p), (8, .l 2 0)] (fun _ hS => (gC (hS.grp 0 rfl) ((rdS.flook (hS.row 2 rfl) (hS.rowlen 2 rfl) g107).ok) (hS.grp 6 rfl))) hI _ (bZ g107) ?_
    refine ho (n := 1) 9 rfl (ec (enter58 _) (assizeref05zOf_calls a1.Kind (memOf _) _ (Inv.start _) _ hy110) ?_)
    rintro _ _ ⟨rfl, hI'⟩
    replace hI := hI.call0 hI'
    clear hI'
    refine ⟨_, rfl, ?_⟩
    refine ⟨hI, ?_⟩
    refine hg (n := 0) [(10, .p)] (fun _ hS => gO) hI (hd ?_)
    replace H := cond_some H
    rcases H with ⟨hc111, H⟩ | ⟨hc111, H⟩
    · refine gt hc111 (go_seq (rp 1 ?_))
      replace H := Option.some.inj H
      subst H
      exact gr Try.func56 ⟨A82, c83, (some ⟨b108, 0, none⟩), c86, A88, c89, A91, c92, A94, c95, rfl, hI.pick [0, 1, 2, 3, 4, 5] (by decide) rfl⟩
    · refine ge hc111 (go_skip ?_)
      refine go_seq_join (o := r) (fun l219 f w => ∃ (j : Nat → Value) (A220 : Option Addr) (c221 : Nat), f = updL j [(0, vP b0z 0), (2, vI a2), (4, vP b2 0), (7, vI x96)] ∧ Inv M w [.blk b0z 106 [vS A82 l81.length c83, vS (some ⟨b108, 0, none⟩) l84.length c86, vS A220 l219.length c221, vS A91 l90.length c92, vS A94 l93.length c95], .row tStr 9 A82 l81.length c83 l81, .row (tInt .i64) 3 (some ⟨b108, 0, none⟩) l84.length c86 l84, .row (tSlice 2 (tInt .i64)) 22 A220 l219.length c221 l219, .row (tInt .i64) 3 A91 l90.length c92 l90, .row (tInt .i64) 3 A94 l93.length c95 l93, .blk b2 97 [vI a1.Kind, .string a1.Key, vI a1.Arg, vB a1.Got, vS A1z0 a1.Vals.length c1z0]]) (fun l219 => assizeref05zbook_enter.j2 a1 a2 l81 l84 l90 l93 x96 l219) ?_ (fun hJ222 => ?_)
      · clear H hI
        rintro l219 _ _ ⟨_, A220, c221, rfl, hI⟩ H
        refine go_seq_join (o := r) (fun (l233, l236) f w => ∃ (j : Nat → Value) (A234 : Option Addr) (c235 : Nat) (A237 : Option Addr) (c238 : Nat), f = updL j [(0, vP b0z 0)] ∧ Inv M w [.blk b0z 106 [vS A82 l81.length c83, vS (some ⟨b108, 0, none⟩) l84.length c86, vS A220 l219.length c221, vS A234 l233.length c235, vS A237 l236.length c238], .row tStr 9 A82 l81.length c83 l81, .row (tInt .i64) 3 (some ⟨b108, 0, none⟩) l84.length c86 l84, .row (tSlice 2 (tInt .i64)) 22 A220 l219.length c221 l219, .row (tInt .i64) 3 A234 l233.length c235 l233, .row (tInt .i64) 3 A237 l236.length c238 l236]) (fun (l233, l236) => assizeref05zbook_enter.j3 l81 l84 l219 l233 l236) ?_ (fun hJ239 => ?_)
        · clear H hI
          rintro ⟨l233, l236⟩ _ _ ⟨_, A234, c235, A237, c238, rfl, hI⟩ H
          refine go_seq (rp 1 ?_)
          replace H := Option.some.inj H
          subst H
          exact gr Try.func56 ⟨A82, c83, (some ⟨b108, 0, none⟩), c86, A220, c221, A234, c235, A237, c238, rfl, hI⟩
        · refine go_seq_join (o := r) (fun b243 f w => ∃ (j : Nat → Value), f = updL j [(0, vP b0z 0), (2, vI a2), (7, vI x96), (153, vB b243)] ∧ Inv M w [.blk b0z 106 [vS A82 l81.length c83, vS (some ⟨b108, 0, none⟩) l84.length c86, vS A220 l219.length c221, vS A91 l90.length c92, vS A94 l93.length c95], .row tStr 9 A82 l81.length c83 l81, .row (tInt .i64) 3 (some ⟨b108, 0, none⟩) l84.length c86 l84, .row (tSlice 2 (tInt .i64)) 22 A220 l219.length c221 l219, .row (tInt .i64) 3 A91 l90.length c92 l90, .row (tInt .i64) 3 A94 l93.length c95 l93]) (fun b243 => assizeref05zbook_enter.j4 a2 l81 l84 l90 l93 x96 l219 b243) ?_ (fun hJ244 => ?_)
          · clear H hI
            rintro b243 _ _ ⟨_, rfl, hI⟩ H
            replace H := cond_some H
            rcases H with ⟨hc245, H⟩ | ⟨hc245, H⟩
            · refine gt hc245 (go_seq (r_in ?_))
              replace H := must_some H
              obtain ⟨g248, H⟩ := H
              obtain ⟨b249, rfl⟩ := hI.rowAt 5 rfl g248
              refine bx 0 [.p, .p, .p, .l 0 4, .p, .p, .x] (gA (hI.grp 0 rfl)) _ (bZ g248) (oe 7 rfl ?_)
              refine e_put 3 _ _ 5 b249 3 l93.length c95 l93 a2 x96 0 (vI a2) rfl (by kernel_rfl) (by kernel_rfl) (by kernel_rfl) (by kernel_rfl) hI rfl g248 (by kernel_rfl) (by kernel_rfl) ?_
              clear hI
              intro _ hI
              refine ro (go_seq (r_in ?_))
              replace H := must_some H
              obtain ⟨g252, H⟩ := H
              obtain ⟨b253, rfl⟩ := hI.rowAt 4 rfl g252
              refine bx 0 [.p, .p, .p, .l 0 3, .p, .x, .l 1 0, .p, .x] (gB (hI.grp 0 rfl) ((rdS.flook (hI.row 4 rfl) (hI.rowlen 4 rfl) g252).ok)) _ (bC g252 (bZ g252)) (oe 9 rfl ?_)
              refine e_put 3 _ _ 4 b253 3 l90.length c92 l90 (w64 ((idx l90 x96) + 1)) x96 0 (vI (w64 ((idx l90 x96) + 1))) rfl (by kernel_rfl) (by kernel_rfl) (by kernel_rfl) (by kernel_rfl) hI rfl g252 (by kernel_rfl) (by kernel_rfl) ?_
              clear hI
              intro _ hI
              refine ro (go_seq (r_in (bx 0 [.p, .p, .p, .l 0 3, .p, .x, .l 1 0, .p] (gB (hI.grp 0 rfl) ((rdS.flook (hI.row 4 rfl) (hI.rowlen 4 rfl) g252).ok)) _ (bZ g252) (ro ?_))))
              replace H := cond_some H
              rcases H with ⟨hc254, H⟩ | ⟨hc254, H⟩
              · refine gt hc254 (go_seq (rp 1 ?_))
                replace hI := hI.recell 0 [vS A82 l81.length c83, vS (some ⟨b108, 0, none⟩) l84.length c86, vS A220 l219.length c221, vS (some ⟨b253, 0, none⟩) ((l90.set x96.toNat (w64 ((idx l90 x96) + 1))).length) c92, vS (some ⟨b249, 0, none⟩) ((l93.set x96.toNat a2).length) c95] (by first | rfl | simp only [List.length_set, List.length_replicate, List.length_nil]) rfl
                replace hI := hI.renum 4 rfl
                replace hI := hI.renum 5 rfl
                replace H := Option.some.inj H
                subst H
                exact gr Try.func56 ⟨A82, c83, (some ⟨b108, 0, none⟩), c86, A220, c221, (some ⟨b253, 0, none⟩), c92, (some ⟨b249, 0, none⟩), c95, rfl, hI⟩
              · refine ge hc254 (go_skip ?_)
                replace hI := hI.recell 0 [vS A82 l81.length c83, vS (some ⟨b108, 0, none⟩) l84.length c86, vS A220 l219.length c221, vS (some ⟨b253, 0, none⟩) ((l90.set x96.toNat (w64 ((idx l90 x96) + 1))).length) c92, vS (some ⟨b249, 0, none⟩) ((l93.set x96.toNat a2).length) c95] (by first | rfl | simp only [List.length_set, List.length_replicate, List.length_nil]) rfl
                replace hI := hI.renum 4 rfl
                replace hI := hI.renum 5 rfl
                exact hJ239 (l90.set x96.toNat (w64 ((idx l90 x96) + 1)), l93.set x96.toNat a2) _ _ ⟨_, (some ⟨b253, 0, none⟩), c92, (some ⟨b249, 0, none⟩), c95, at_, hI⟩ H
            · refine ge hc245 (go_skip ?_)
              exact hJ239 (l90, l93) _ _ ⟨_, A91, c92, A94, c95, at_, hI⟩ H
          · refine r_in ?_
            replace H := cond_some H
            rcases H with ⟨hc255, H⟩ | ⟨hc255, H⟩
            · replace H := must_some H
              obtain ⟨g256, H⟩ := H
              obtain ⟨b257, rfl⟩ := hI.rowAt 5 rfl g256
              refine bx 0 [.p, .l 0 0, .p, .c true, .p, .p, .p, .l 1 4, .p, .x, .l 2 0, .p, .p, .p] (gC (hI.grp 6 rfl) (hI.grp 0 rfl) ((rdS.flook (hI.row 5 rfl) (hI.rowlen 5 rfl) g256).ok)) _ (bC (bndEq hc255) (bZ g256)) (ro ?_)
              exact hJ244 (idx l93 x96 != a2) _ _ ⟨_, at_, hI.pick [0, 1, 2, 3, 4, 5] (by decide) rfl⟩ H
            · refine bx 0 [.p, .l 0 0, .p, .c false, .p, .p, .p, .p, .p, .p, .p, .p, .p, .p] (gA (hI.grp 6 rfl)) _ (bZ (bndEq hc255)) (ro ?_)
              exact hJ244 false _ _ ⟨_, at_, hI.pick [0, 1, 2, 3, 4, 5] (by decide) rfl⟩ H
      · refine go_seq_join (o := r) (fun b259 f w => ∃ (j : Nat → Value), f = updL j [(0, vP b0z 0), (2, vI a2), (4, vP b2 0), (7, vI x96), (97, vB b259)] ∧ Inv M w [.blk b0z 106 [vS A82 l81.length c83, vS (some ⟨b108, 0, none⟩) l84.length c86, vS A88 l87.length c89, vS A91 l90.length c92, vS A94 l93.length c95], .row tStr 9 A82 l81.length c83 l81, .row (tInt .i64) 3 (some ⟨b108, 0, none⟩) l84.length c86 l84, .row (tSlice 2 (tInt .i64)) 22 A88 l87.length c89 l87, .row (tInt .i64) 3 A91 l90.length c92 l90, .row (tInt .i64) 3 A94 l93.length c95 l93, .blk b2 97 [vI a1.Kind, .string a1.Key, vI a1.Arg, vB a1.Got, vS A1z0 a1.Vals.length c1z0]]) (fun b259 => assizeref05zbook_enter.j5 a1 a2 l81 l84 l87 l90 l93 x96 b259) ?_ (fun hJ260 => ?_)
        · clear H hI
          rintro b259 _ _ ⟨_, rfl, hI⟩ H
          replace H := cond_some H
          rcases H with ⟨hc261, H⟩ | ⟨hc261, H⟩
          · refine gt hc261 (go_seq (go_seq (rp 1 (go_block ?_))))
            refine go_iter (assizeref05zbook_enter.s6 a1 a2 l81 l84 l87 l90 l93 x96) (fun x447 f w => ∃ (j : Nat → Value), f = updL j [(0, vP b0z 0), (2, vI a2), (4, vP b2 0), (7, vI x96), (8, vI x447)] ∧ Inv M w [.blk b0z 106 [vS A82 l81.length c83, vS (some ⟨b108, 0, none⟩) l84.length c86, vS A88 l87.length c89, vS A91 l90.length c92, vS A94 l93.length c95], .row tStr 9 A82 l81.length c83 l81, .row (tInt .i64) 3 (some ⟨b108, 0, none⟩) l84.length c86 l84, .row (tSlice 2 (tInt .i64)) 22 A88 l87.length c89 l87, .row (tInt .i64) 3 A91 l90.length c92 l90, .row (tInt .i64) 3 A94 l93.length c95 l93, .blk b2 97 [vI a1.Kind, .string a1.Key, vI a1.Arg, vB a1.Got, vS A1z0 a1.Vals.length c1z0]]) H ⟨_, at_, hI⟩ ?_
            clear H hI
            rintro x447 _ _ o1 H ⟨_, rfl, hI⟩ hin1 hout1
            refine go_seq (go_seq (r_in ?_))
            replace H := must_some H
            obtain ⟨g467, H⟩ := H
            obtain ⟨b468, rfl⟩ := hI.rowAt 3 rfl g467
            obtain ⟨cs471, hk470, hg469⟩ := rdS.look (hI.row 3 rfl) (hI.rowlen 3 rfl) g467
            obtain ⟨A472, c473, rfl, hl475, hr474⟩ := hk470
            refine bx 0 [.p, .p, .p, .p, .l 0 2, .p, .x, .l 1 0, .p, .p] (gB (hI.grp 0 rfl) hg469.ok) _ (bZ g467) (ro ?_)
            replace H := cond_some H
            rcases H with ⟨hc476, H⟩ | ⟨hc476, H⟩
            · refine gt hc476 (go_skip (go_seq (go_block (go_seq ?_))))
              obtain ⟨cs511, hk510, hg509⟩ := rdS.look (hI.row 3 rfl) (hI.rowlen 3 rfl) g467
              obtain ⟨A512, c513, rfl, hl515, hr514⟩ := hk510
              replace H := must_some H
              obtain ⟨g516, H⟩ := H
              obtain ⟨b517, q518, rfl, _⟩ := rdS.fopen hr514 rfl g516
              refine dx [.p, .p, .p, .l 0 2, .p, .x, .l 1 0, .p, .x, .l 2 0, .p, .l 3 2, .p] (gD (hI.grp 0 rfl) hg509.ok ((rdS.flook hr514 rfl g516).ok) (hI.grp 6 rfl)) _ (bC g467 (bZ g516)) hI ?_
              clear hI
              intro _ hI
              replace H := cond_some H
              rcases H with ⟨hc519, H⟩ | ⟨hc519, H⟩
              · refine gt hc519 (go_seq (rp 1 ?_))
                replace H := out_some H
                obtain ⟨_, H, he1⟩ := H
                have he := (hout1 _ he1).symm
                subst he
                replace H := Option.some.inj H
                subst H
                exact gr Try.func56 ⟨A82, c83, (some ⟨b108, 0, none⟩), c86, (some ⟨b468, 0, none⟩), c89, A91, c92, A94, c95, rfl, hI.pick [0, 1, 2, 3, 4, 5] (by decide) rfl⟩
              · refine ge hc519 (go_skip (go_inBlock (rp 3 ?_)))
                exact hin1 _ (Option.some.inj H).symm _ _ ⟨_, at_, hI⟩
            · refine ge hc476 ?_
              refine go_exit rfl ?_
              replace H := must_some H
              obtain ⟨g529, H⟩ := H
              refine go_held (fun w => Inv M w [.blk b0z 106 [vS A82 l81.length c83, vS (some ⟨b108, 0, none⟩) l84.length c86, vS (some ⟨b468, 0, none⟩) l87.length c89, vS A91 l90.length c92, vS A94 l93.length c95], .row tStr 9 A82 l81.length c83 l81, .row (tInt .i64) 3 (some ⟨b108, 0, none⟩) l84.length c86 l84, .row (tInt .i64) 3 A91 l90.length c92 l90, .row (tInt .i64) 3 A94 l93.length c95 l93, .blk b2 97 [vI a1.Kind, .string a1.Key, vI a1.Arg, vB a1.Got, vS A1z0 a1.Vals.length c1z0]]) (by kernel_rfl) ?_
              replace hI := hI.drew'
              obtain ⟨cs534, hk533, hg532⟩ := rdS.look (hI.row 3 rfl) (hI.rowlen 3 rfl) g467
              obtain ⟨A535, c536, rfl, hl538, hr537⟩ := hk533
              refine hx (n := 5) [(0, .p), (1, .p), (2, .p), (3, .l 0 2), (4, .p), (5, .p), (6, .p), (7, .p), (8, .l 0 2), (9, .p), (10, .x), (12, .p), (13, .l 1 2)] (fun _ hS => (gB (hS.grp 0 rfl) (hS.grp 5 rfl))) (hI.pk [0, 1, 2, 4, 5, 6]) _ (bZ g467) ?_
              refine held_each (n := 4) [11, 14] (by simp) (by kernel_rfl) ⟨⟨_, rfl, by kernel_rfl, ?_⟩, ⟨_, rfl, by kernel_rfl, ?_⟩, trivial⟩
              · refine (e_read (ops := #[]) [(b468, 0 + x96.toNat * 1, [vS A535 ((idx l87 x96).length) c536])] (.l 0 0) (vS A535 ((idx l87 x96).length) c536) [] ⟨hg532.ok, trivial⟩ trivial (by kernel_rfl) (by kernel_rfl) (by kernel_rfl) ⟨(hI.pk [0, 1, 2, 4, 5, 6]), ?_⟩)
                refine ho (n := 3) 14 rfl (e_partsS 22 2 1 _ _ _ #[vI a1.Arg] [vI a1.Arg] rfl rfl rfl rfl (by kernel_rfl) (by kernel_rfl) (by kernel_rfl) (by kernel_rfl) hI ?_)
                clear hI
                intro b543 _ hs544 hI
                refine ⟨(hI.pk [0, 1, 2, 4, 5, 6]), ?_⟩
                replace hI := hI.takeS (kt := (tInt .i64)) 3 rfl g467 (Lies.ok (Lies.mono hg532 hs544))
                refine ho (n := 2) 15 rfl (e_append (tInt .i64) 22 0 2 _ _ _ _ A535 ((idx l87 x96).length) c536 (idx l87 x96) ([a1.Arg] : List Int) b543 0 1 1 [vI a1.Arg] 0 [] [1, 2, 3, 4, 5, 6, 7, 8] [] [.blk b0z 106 [vS A82 l81.length c83, vS (some ⟨b108, 0, none⟩) l84.length c86, vS (some ⟨b468, 0, none⟩) l87.length c89, vS A91 l90.length c92, vS A94 l93.length c95], .row tStr 9 A82 l81.length c83 l81, .row (tInt .i64) 3 (some ⟨b108, 0, none⟩) l84.length c86 l84, .row (tOpt (tSlice 2 (tInt .i64))) 22 (some ⟨b468, 0, none⟩) l87.length c89 ((l87.map Sum.inl).set x96.toNat (Sum.inr [vS A535 ((idx l87 x96).length) c536])), .row (tInt .i64) 3 A91 l90.length c92 l90, .row (tInt .i64) 3 A94 l93.length c95 l93, .blk b2 97 [vI a1.Kind, .string a1.Key, vI a1.Arg, vB a1.Got, vS A1z0 a1.Vals.length c1z0], .blk b543 2 [vI a1.Arg]] rfl (by kernel_rfl) (by kernel_rfl) rfl rfl rfl rfl rfl (by kernel_rfl) hI (by decide) rfl rfl rfl (hI.grp 8 rfl) g529 (mks_cons (mk_flat (k := (tInt .i64)) a1.Arg [vI a1.Arg] rfl) mks_nil) ?_)
                clear hI
                intro A547 c548 _ hI
                replace hI := hI.pick (L' := [.row (tInt .i64) 2 A547 (((idx l87 x96) ++ ([a1.Arg] : List Int)).length) c548 ((idx l87 x96) ++ ([a1.Arg] : List Int)), .blk b0z 106 [vS A82 l81.length c83, vS (some ⟨b108, 0, none⟩) l84.length c86, vS (some ⟨b468, 0, none⟩) l87.length c89, vS A91 l90.length c92, vS A94 l93.length c95], .row tStr 9 A82 l81.length c83 l81, .row (tInt .i64) 3 (some ⟨b108, 0, none⟩) l84.length c86 l84, .row (tOpt (tSlice 2 (tInt .i64))) 22 (some ⟨b468, 0, none⟩) l87.length c89 ((l87.map Sum.inl).set x96.toNat (Sum.inr [vS A535 ((idx l87 x96).length) c536])), .row (tInt .i64) 3 A91 l90.length c92 l90, .row (tInt .i64) 3 A94 l93.length c95 l93, .blk b2 97 [vI a1.Kind, .string a1.Key, vI a1.Arg, vB a1.Got, vS A1z0 a1.Vals.length c1z0]]) [0, 1, 2, 3, 4, 5, 6, 7] (by decide) rfl
                refine ⟨(hI.pk [1, 2, 3, 5, 6, 7]), ?_⟩
                refine hx (n := 1) [(16, .x)] (fun _ hS => gO) (hI.pk [1, 2, 3, 5, 6, 7]) _ (bZ g467) ?_
                refine ho (n := 0) 17 rfl (e_putown (kt := tOpt (tSlice 2 (tInt .i64))) 22 _ _ 4 [0] [1, 2, 3, 5, 6, 7] b468 22 l87.length c89 ((l87.map Sum.inl).set x96.toNat (Sum.inr [vS A535 ((idx l87 x96).length) c536])) (Sum.inl ((idx l87 x96) ++ ([a1.Arg] : List Int))) x96 (vS A547 (((idx l87 x96) ++ ([a1.Arg] : List Int)).length) c548) [.row (tInt .i64) 2 A547 (((idx l87 x96) ++ ([a1.Arg] : List Int)).length) c548 ((idx l87 x96) ++ ([a1.Arg] : List Int))] [.blk b0z 106 [vS A82 l81.length c83, vS (some ⟨b108, 0, none⟩) l84.length c86, vS (some ⟨b468, 0, none⟩) l87.length c89, vS A91 l90.length c92, vS A94 l93.length c95], .row tStr 9 A82 l81.length c83 l81, .row (tInt .i64) 3 (some ⟨b108, 0, none⟩) l84.length c86 l84, .row (tInt .i64) 3 A91 l90.length c92 l90, .row (tInt .i64) 3 A94 l93.length c95 l93, .blk b2 97 [vI a1.Kind, .string a1.Key, vI a1.Arg, vB a1.Got, vS A1z0 a1.Vals.length c1z0]] rfl (by kernel_rfl) (by kernel_rfl) (by kernel_rfl) (by kernel_rfl) hI (by decide) rfl g467 mk_row ?_)
                clear hI
                intro _ hI
                replace hI := hI.optback (k := (tSlice 2 (tInt .i64))) 0 (l87.set x96.toNat ((idx l87 x96) ++ ([a1.Arg] : List Int))) rfl set_inl
                refine ⟨(hI.pk [1, 2, 3, 4, 5, 6]), ?_⟩
                refine hd ?_
                replace hI := hI.renum 0 rfl
                replace hI := hI.recell 1 [vS A82 l81.length c83, vS (some ⟨b108, 0, none⟩) l84.length c86, vS (some ⟨b468, 0, none⟩) ((l87.set x96.toNat ((idx l87 x96) ++ ([a1.Arg] : List Int))).length) c89, vS A91 l90.length c92, vS A94 l93.length c95] (by first | rfl | simp only [List.length_set, List.length_replicate, List.length_nil]) rfl
                replace H := out_some H
                obtain ⟨_, H, he1⟩ := H
                have he := (hout1 _ he1).symm
                subst he
                exact hJ222 (l87.set x96.toNat ((idx l87 x96) ++ ([a1.Arg] : List Int))) _ _ ⟨_, (some ⟨b468, 0, none⟩), c89, at_, hI.pick [1, 2, 3, 0, 4, 5, 6] (by decide) rfl⟩ H
              · refine (e_partsS 22 2 1 _ _ _ #[vI a1.Arg] [vI a1.Arg] rfl rfl rfl rfl (by kernel_rfl) (by kernel_rfl) (by kernel_rfl) (by kernel_rfl) hI ?_)
                clear hI
                intro b549 _ hs550 hI
                refine ⟨(hI.pk [0, 1, 2, 4, 5, 6]), ?_⟩
                refine ho (n := 3) 11 rfl (e_read (ops := #[]) [(b468, 0 + x96.toNat * 1, [vS A535 ((idx l87 x96).length) c536])] (.l 0 0) (vS A535 ((idx l87 x96).length) c536) [] ⟨(Lies.mono hg532 hs550).ok, trivial⟩ trivial (by kernel_rfl) (by kernel_rfl) (by kernel_rfl) ⟨(hI.pk [0, 1, 2, 4, 5, 6]), ?_⟩)
                replace hI := hI.takeS (kt := (tInt .i64)) 3 rfl g467 (Lies.ok (Lies.mono hg532 hs550))
                refine ho (n := 2) 15 rfl (e_append (tInt .i64) 22 0 2 _ _ _ _ A535 ((idx l87 x96).length) c536 (idx l87 x96) ([a1.Arg] : List Int) b549 0 1 1 [vI a1.Arg] 0 [] [1, 2, 3, 4, 5, 6, 7, 8] [] [.blk b0z 106 [vS A82 l81.length c83, vS (some ⟨b108, 0, none⟩) l84.length c86, vS (some ⟨b468, 0, none⟩) l87.length c89, vS A91 l90.length c92, vS A94 l93.length c95], .row tStr 9 A82 l81.length c83 l81, .row (tInt .i64) 3 (some ⟨b108, 0, none⟩) l84.length c86 l84, .row (tOpt (tSlice 2 (tInt .i64))) 22 (some ⟨b468, 0, none⟩) l87.length c89 ((l87.map Sum.inl).set x96.toNat (Sum.inr [vS A535 ((idx l87 x96).length) c536])), .row (tInt .i64) 3 A91 l90.length c92 l90, .row (tInt .i64) 3 A94 l93.length c95 l93, .blk b2 97 [vI a1.Kind, .string a1.Key, vI a1.Arg, vB a1.Got, vS A1z0 a1.Vals.length c1z0], .blk b549 2 [vI a1.Arg]] rfl (by kernel_rfl) (by kernel_rfl) rfl rfl rfl rfl rfl (by kernel_rfl) hI (by decide) rfl rfl rfl (hI.grp 8 rfl) g529 (mks_cons (mk_flat (k := (tInt .i64)) a1.Arg [vI a1.Arg] rfl) mks_nil) ?_)
                clear hI
                intro A553 c554 _ hI
                replace hI := hI.pick (L' := [.row (tInt .i64) 2 A553 (((idx l87 x96) ++ ([a1.Arg] : List Int)).length) c554 ((idx l87 x96) ++ ([a1.Arg] : List Int)), .blk b0z 106 [vS A82 l81.length c83, vS (some ⟨b108, 0, none⟩) l84.length c86, vS (some ⟨b468, 0, none⟩) l87.length c89, vS A91 l90.length c92, vS A94 l93.length c95], .row tStr 9 A82 l81.length c83 l81, .row (tInt .i64) 3 (some ⟨b108, 0, none⟩) l84.length c86 l84, .row (tOpt (tSlice 2 (tInt .i64))) 22 (some ⟨b468, 0, none⟩) l87.length c89 ((l87.map Sum.inl).set x96.toNat (Sum.inr [vS A535 ((idx l87 x96).length) c536])), .row (tInt .i64) 3 A91 l90.length c92 l90, .row (tInt .i64) 3 A94 l93.length c95 l93, .blk b2 97 [vI a1.Kind, .string a1.Key, vI a1.Arg, vB a1.Got, vS A1z0 a1.Vals.length c1z0]]) [0, 1, 2, 3, 4, 5, 6, 7] (by decide) rfl
                refine ⟨(hI.pk [1, 2, 3, 5, 6, 7]), ?_⟩
                refine hx (n := 1) [(16, .x)] (fun _ hS => gO) (hI.pk [1, 2, 3, 5, 6, 7]) _ (bZ g467) ?_
                refine ho (n := 0) 17 rfl (e_putown (kt := tOpt (tSlice 2 (tInt .i64))) 22 _ _ 4 [0] [1, 2, 3, 5, 6, 7] b468 22 l87.length c89 ((l87.map Sum.inl).set x96.toNat (Sum.inr [vS A535 ((idx l87 x96).length) c536])) (Sum.inl ((idx l87 x96) ++ ([a1.Arg] : List Int))) x96 (vS A553 (((idx l87 x96) ++ ([a1.Arg] : List Int)).length) c554) [.row (tInt .i64) 2 A553 (((idx l87 x96) ++ ([a1.Arg] : List Int)).length) c554 ((idx l87 x96) ++ ([a1.Arg] : List Int))] [.blk b0z 106 [vS A82 l81.length c83, vS (some ⟨b108, 0, none⟩) l84.length c86, vS (some ⟨b468, 0, none⟩) l87.length c89, vS A91 l90.length c92, vS A94 l93.length c95], .row tStr 9 A82 l81.length c83 l81, .row (tInt .i64) 3 (some ⟨b108, 0, none⟩) l84.length c86 l84, .row (tInt .i64) 3 A91 l90.length c92 l90, .row (tInt .i64) 3 A94 l93.length c95 l93, .blk b2 97 [vI a1.Kind, .string a1.Key, vI a1.Arg, vB a1.Got, vS A1z0 a1.Vals.length c1z0]] rfl (by kernel_rfl) (by kernel_rfl) (by kernel_rfl) (by kernel_rfl) hI (by decide) rfl g467 mk_row ?_)
                clear hI
                intro _ hI
                replace hI := hI.optback (k := (tSlice 2 (tInt .i64))) 0 (l87.set x96.toNat ((idx l87 x96) ++ ([a1.Arg] : List Int))) rfl set_inl
                refine ⟨(hI.pk [1, 2, 3, 4, 5, 6]), ?_⟩
                refine hd ?_
                replace hI := hI.renum 0 rfl
                replace hI := hI.recell 1 [vS A82 l81.length c83, vS (some ⟨b108, 0, none⟩) l84.length c86, vS (some ⟨b468, 0, none⟩) ((l87.set x96.toNat ((idx l87 x96) ++ ([a1.Arg] : List Int))).length) c89, vS A91 l90.length c92, vS A94 l93.length c95] (by first | rfl | simp only [List.length_set, List.length_replicate, List.length_nil]) rfl
                replace H := out_some H
                obtain ⟨_, H, he1⟩ := H
                have he := (hout1 _ he1).symm
                subst he
                exact hJ222 (l87.set x96.toNat ((idx l87 x96) ++ ([a1.Arg] : List Int))) _ _ ⟨_, (some ⟨b468, 0, none⟩), c89, at_, hI.pick [1, 2, 3, 0, 4, 5, 6] (by decide) rfl⟩ H
          · refine ge hc261 (go_skip ?_)
            exact hJ222 l87 _ _ ⟨_, A88, c89, at_, hI⟩ H
        · refine r_in ?_
          replace H := cond_some H
          rcases H with ⟨hc555, H⟩ | ⟨hc555, H⟩
          · refine bx 0 [.p, .l 0 0, .p, .c true, .p, .p, .p, .p] (gA (hI.grp 6 rfl)) _ (bZ (bndEq hc555)) (ro ?_)
            exact hJ260 true _ _ ⟨_, at_, hI⟩ H
          · refine bx 0 [.p, .l 0 0, .p, .c false, .p, .l 0 0, .p, .p] (gA (hI.grp 6 rfl)) _ (bZ (bndEq hc555)) (ro ?_)
            exact hJ260 (a1.Kind == 3) _ _ ⟨_, at_, hI⟩ H
  · refine go_seq (rp 2 ?_)
    replace H := cond_some H
    rcases H with ⟨hc556, H⟩ | ⟨hc556, H⟩
    · refine gt hc556 (go_seq (go_seq (rg [.p, .p, .p, .l 0 0, .p, .p] (gA (hI.grp 0 rfl)) ?_)))
      replace H := cond_some H
      rcases H with ⟨hc558, H⟩ | ⟨hc558, H⟩
      · refine gt hc558 (go_seq (rp 1 ?_))
        replace H := Option.some.inj H
        subst H
        exact gr Try.func56 ⟨A0z0, c0z0, A0z1, c0z1, A0z2, c0z2, A0z3, c0z3, A0z4, c0z4, rfl, hI.pick [0, 1, 2, 3, 4, 5] (by decide) rfl⟩
      · refine ge hc558 (go_skip (go_seq (rg [.p, .p, .p, .l 0 0, .p, .p] (gA (hI.grp 0 rfl)) ?_)))
        refine go_seq_join (o := r) (fun (_ : Unit) f w => ∃ (j : Nat → Value) (A580 : Option Addr) (c581 : Nat), f = updL j [(0, vP b0z 0), (2, vI a2), (4, vP b2 0), (7, vI (a0.keys.length : Int))] ∧ Inv M w [.blk b0z 106 [vS A580 ((a0.keys ++ ([a1.Key] : List ByteArray)).length) c581, vS A0z1 a0.types.length c0z1, vS A0z2 a0.wrote.length c0z2, vS A0z3 a0.incs.length c0z3, vS A0z4 a0.last_.length c0z4], .row tStr 9 A580 ((a0.keys ++ ([a1.Key] : List ByteArray)).length) c581 (a0.keys ++ ([a1.Key] : List ByteArray)), .row (tInt .i64) 3 A0z1 a0.types.length c0z1 a0.types, .row (tSlice 2 (tInt .i64)) 22 A0z2 a0.wrote.length c0z2 a0.wrote, .row (tInt .i64) 3 A0z3 a0.incs.length c0z3 a0.incs, .row (tInt .i64) 3 A0z4 a0.last_.length c0z4 a0.last_, .blk b2 97 [vI a1.Kind, .string a1.Key, vI a1.Arg, vB a1.Got, vS A1z0 a1.Vals.length c1z0]]) (fun (_ : Unit) => assizeref05zbook_enter.j7 a0 a1 a2) ?_ (fun hJ582 => ?_)
        · clear H hI
          rintro ⟨⟩ _ _ ⟨_, A580, c581, rfl, hI⟩ H
          refine go_seq_join (o := r) (fun l614 f w => ∃ (j : Nat → Value) (A615 : Option Addr) (c616 : Nat), f = updL j [(0, vP b0z 0), (2, vI a2), (4, vP b2 0), (7, vI (a0.keys.length : Int))] ∧ Inv M w [.blk b0z 106 [vS A580 ((a0.keys ++ ([a1.Key] : List ByteArray)).length) c581, vS A615 l614.length c616, vS A0z2 a0.wrote.length c0z2, vS A0z3 a0.incs.length c0z3, vS A0z4 a0.last_.length c0z4], .row tStr 9 A580 ((a0.keys ++ ([a1.Key] : List ByteArray)).length) c581 (a0.keys ++ ([a1.Key] : List ByteArray)), .row (tInt .i64) 3 A615 l614.length c616 l614, .row (tSlice 2 (tInt .i64)) 22 A0z2 a0.wrote.length c0z2 a0.wrote, .row (tInt .i64) 3 A0z3 a0.incs.length c0z3 a0.incs, .row (tInt .i64) 3 A0z4 a0.last_.length c0z4 a0.last_, .blk b2 97 [vI a1.Kind, .string a1.Key, vI a1.Arg, vB a1.Got, vS A1z0 a1.Vals.length c1z0]]) (fun l614 => assizeref05zbook_enter.j8 a0 a1 a2 l614) ?_ (fun hJ617 => ?_)
          · clear H hI
            rintro l614 _ _ ⟨_, A615, c616, rfl, hI⟩ H
            refine go_seq (r_in (bg 0 [.p, .p, .p, .p, .l 0 2] (gA (hI.grp 0 rfl)) (oe 5 rfl ?_)))
            refine e_partsS 104 22 1 _ _ _ #[vS none 0 0] [vS none 0 0] rfl rfl rfl rfl (by kernel_rfl) (by kernel_rfl) (by kernel_rfl) (by kernel_rfl) hI ?_
            clear hI
            intro b623 _ hs624 hI
            replace H := must_some H
            obtain ⟨g625, H⟩ := H
            refine oe 6 rfl ?_
            refine e_append (tSlice 2 (tInt .i64)) 104 0 22 _ _ _ _ A0z2 a0.wrote.length c0z2 a0.wrote ([([] : List Int)] : List (List Int)) b623 0 1 1 [vS none 0 0] 3 [] [0, 1, 2, 4, 5, 6, 7] [] [.blk b0z 106 [vS A580 ((a0.keys ++ ([a1.Key] : List ByteArray)).length) c581, vS A615 l614.length c616, vS A0z2 a0.wrote.length c0z2, vS A0z3 a0.incs.length c0z3, vS A0z4 a0.last_.length c0z4], .row tStr 9 A580 ((a0.keys ++ ([a1.Key] : List ByteArray)).length) c581 (a0.keys ++ ([a1.Key] : List ByteArray)), .row (tInt .i64) 3 A615 l614.length c616 l614, .row (tInt .i64) 3 A0z3 a0.incs.length c0z3 a0.incs, .row (tInt .i64) 3 A0z4 a0.last_.length c0z4 a0.last_, .blk b2 97 [vI a1.Kind, .string a1.Key, vI a1.Arg, vB a1.Got, vS A1z0 a1.Vals.length c1z0], .blk b623 22 [vS none 0 0]] rfl (by kernel_rfl) (by kernel_rfl) rfl rfl rfl rfl rfl (by kernel_rfl) hI (by decide) rfl rfl rfl (hI.grp 7 rfl) g625 (mks_cons mk_nil mks_nil) ?_
            clear hI
            intro A626 c627 _ hI
            replace hI := hI.pick (L' := [.row (tSlice 2 (tInt .i64)) 22 A626 ((a0.wrote ++ ([([] : List Int)] : List (List Int))).length) c627 (a0.wrote ++ ([([] : List Int)] : List (List Int))), .blk b0z 106 [vS A580 ((a0.keys ++ ([a1.Key] : List ByteArray)).length) c581, vS A615 l614.length c616, vS A0z2 a0.wrote.length c0z2, vS A0z3 a0.incs.length c0z3, vS A0z4 a0.last_.length c0z4], .row tStr 9 A580 ((a0.keys ++ ([a1.Key] : List ByteArray)).length) c581 (a0.keys ++ ([a1.Key] : List ByteArray)), .row (tInt .i64) 3 A615 l614.length c616 l614, .row (tInt .i64) 3 A0z3 a0.incs.length c0z3 a0.incs, .row (tInt .i64) 3 A0z4 a0.last_.length c0z4 a0.last_, .blk b2 97 [vI a1.Kind, .string a1.Key, vI a1.Arg, vB a1.Got, vS A1z0 a1.Vals.length c1z0]]) [0, 1, 2, 3, 4, 5, 6] (by decide) rfl
            refine bp 7 2 (oe 9 rfl ?_)
            refine e_store 104 _ _ 1 b0z 106 [vS A580 ((a0.keys ++ ([a1.Key] : List ByteArray)).length) c581, vS A615 l614.length c616, vS A0z2 a0.wrote.length c0z2, vS A0z3 a0.incs.length c0z3, vS A0z4 a0.last_.length c0z4] [vS A580 ((a0.keys ++ ([a1.Key] : List ByteArray)).length) c581, vS A615 l614.length c616, vS A626 ((a0.wrote ++ ([([] : List Int)] : List (List Int))).length) c627, vS A0z3 a0.incs.length c0z3, vS A0z4 a0.last_.length c0z4] 2 (vS A626 ((a0.wrote ++ ([([] : List Int)] : List (List Int))).length) c627) rfl (by kernel_rfl) (by kernel_rfl) (by kernel_rfl) (by kernel_rfl) hI rfl (by kernel_rfl) (by kernel_rfl) ?_
            clear hI
            intro _ hI
            refine ro (go_seq (r_in (bg 0 [.p, .p, .p, .p, .l 0 3] (gA (hI.grp 1 rfl)) (oe 5 rfl ?_))))
            refine e_partsS 103 3 1 _ _ _ #[vI 0] [vI 0] rfl rfl rfl rfl (by kernel_rfl) (by kernel_rfl) (by kernel_rfl) (by kernel_rfl) hI ?_
            clear hI
            intro b633 _ hs634 hI
            replace H := must_some H
            obtain ⟨g635, H⟩ := H
            refine oe 6 rfl ?_
            refine e_append (tInt .i64) 103 0 3 _ _ _ _ A0z3 a0.incs.length c0z3 a0.incs ([0] : List Int) b633 0 1 1 [vI 0] 4 [] [0, 1, 2, 3, 5, 6, 7] [] [.row (tSlice 2 (tInt .i64)) 22 A626 ((a0.wrote ++ ([([] : List Int)] : List (List Int))).length) c627 (a0.wrote ++ ([([] : List Int)] : List (List Int))), .blk b0z 106 [vS A580 ((a0.keys ++ ([a1.Key] : List ByteArray)).length) c581, vS A615 l614.length c616, vS A626 ((a0.wrote ++ ([([] : List Int)] : List (List Int))).length) c627, vS A0z3 a0.incs.length c0z3, vS A0z4 a0.last_.length c0z4], .row tStr 9 A580 ((a0.keys ++ ([a1.Key] : List ByteArray)).length) c581 (a0.keys ++ ([a1.Key] : List ByteArray)), .row (tInt .i64) 3 A615 l614.length c616 l614, .row (tInt .i64) 3 A0z4 a0.last_.length c0z4 a0.last_, .blk b2 97 [vI a1.Kind, .string a1.Key, vI a1.Arg, vB a1.Got, vS A1z0 a1.Vals.length c1z0], .blk b633 3 [vI 0]] rfl (by kernel_rfl) (by kernel_rfl) rfl rfl rfl rfl rfl (by kernel_rfl) hI (by decide) rfl rfl rfl (hI.grp 7 rfl) g635 (mks_cons (mk_flat (k := (tInt .i64)) 0 [vI 0] rfl) mks_nil) ?_
            clear hI
            intro A636 c637 _ hI
            replace hI := hI.pick (L' := [.row (tInt .i64) 3 A636 ((a0.incs ++ ([0] : List Int)).length) c637 (a0.incs ++ ([0] : List Int)), .row (tSlice 2 (tInt .i64)) 22 A626 ((a0.wrote ++ ([([] : List Int)] : List (List Int))).length) c627 (a0.wrote ++ ([([] : List Int)] : List (List Int))), .blk b0z 106 [vS A580 ((a0.keys ++ ([a1.Key] : List ByteArray)).length) c581, vS A615 l614.length c616, vS A626 ((a0.wrote ++ ([([] : List Int)] : List (List Int))).length) c627, vS A0z3 a0.incs.length c0z3, vS A0z4 a0.last_.length c0z4], .row tStr 9 A580 ((a0.keys ++ ([a1.Key] : List ByteArray)).length) c581 (a0.keys ++ ([a1.Key] : List ByteArray)), .row (tInt .i64) 3 A615 l614.length c616 l614, .row (tInt .i64) 3 A0z4 a0.last_.length c0z4 a0.last_, .blk b2 97 [vI a1.Kind, .string a1.Key, vI a1.Arg, vB a1.Got, vS A1z0 a1.Vals.length c1z0]]) [0, 1, 2, 3, 4, 5, 6] (by decide) rfl
            refine bp 7 2 (oe 9 rfl ?_)
            refine e_store 103 _ _ 2 b0z 106 [vS A580 ((a0.keys ++ ([a1.Key] : List ByteArray)).length) c581, vS A615 l614.length c616, vS A626 ((a0.wrote ++ ([([] : List Int)] : List (List Int))).length) c627, vS A0z3 a0.incs.length c0z3, vS A0z4 a0.last_.length c0z4] [vS A580 ((a0.keys ++ ([a1.Key] : List ByteArray)).length) c581, vS A615 l614.length c616, vS A626 ((a0.wrote ++ ([([] : List Int)] : List (List Int))).length) c627, vS A636 ((a0.incs ++ ([0] : List Int)).length) c637, vS A0z4 a0.last_.length c0z4] 3 (vS A636 ((a0.incs ++ ([0] : List Int)).length) c637) rfl (by kernel_rfl) (by kernel_rfl) (by kernel_rfl) (by kernel_rfl) hI rfl (by kernel_rfl) (by kernel_rfl) ?_
            clear hI
            intro _ hI
            refine ro (r_in (bg 0 [.p, .p, .p, .p, .l 0 4] (gA (hI.grp 2 rfl)) (oe 5 rfl ?_)))
            refine e_partsS 103 3 1 _ _ _ #[vI (-1)] [vI (-1)] rfl rfl rfl rfl (by kernel_rfl) (by kernel_rfl) (by kernel_rfl) (by kernel_rfl) hI ?_
            clear hI
            intro b638 _ hs639 hI
            replace H := must_some H
            obtain ⟨g640, H⟩ := H
            refine oe 6 rfl ?_
            refine e_append (tInt .i64) 103 0 3 _ _ _ _ A0z4 a0.last_.length c0z4 a0.last_ ([(-1)] : List Int) b638 0 1 1 [vI (-1)] 5 [] [0, 1, 2, 3, 4, 6, 7] [] [.row (tInt .i64) 3 A636 ((a0.incs ++ ([0] : List Int)).length) c637 (a0.incs ++ ([0] : List Int)), .row (tSlice 2 (tInt .i64)) 22 A626 ((a0.wrote ++ ([([] : List Int)] : List (List Int))).length) c627 (a0.wrote ++ ([([] : List Int)] : List (List Int))), .blk b0z 106 [vS A580 ((a0.keys ++ ([a1.Key] : List ByteArray)).length) c581, vS A615 l614.length c616, vS A626 ((a0.wrote ++ ([([] : List Int)] : List (List Int))).length) c627, vS A636 ((a0.incs ++ ([0] : List Int)).length) c637, vS A0z4 a0.last_.length c0z4], .row tStr 9 A580 ((a0.keys ++ ([a1.Key] : List ByteArray)).length) c581 (a0.keys ++ ([a1.Key] : List ByteArray)), .row (tInt .i64) 3 A615 l614.length c616 l614, .blk b2 97 [vI a1.Kind, .string a1.Key, vI a1.Arg, vB a1.Got, vS A1z0 a1.Vals.length c1z0], .blk b638 3 [vI (-1)]] rfl (by kernel_rfl) (by kernel_rfl) rfl rfl rfl rfl rfl (by kernel_rfl) hI (by decide) rfl rfl rfl (hI.grp 7 rfl) g640 (mks_cons (mk_flat (k := (tInt .i64)) (-1) [vI (-1)] rfl) mks_nil) ?_
            clear hI
            intro A641 c642 _ hI
            replace hI := hI.pick (L' := [.row (tInt .i64) 3 A641 ((a0.last_ ++ ([(-1)] : List Int)).length) c642 (a0.last_ ++ ([(-1)] : List Int)), .row (tInt .i64) 3 A636 ((a0.incs ++ ([0] : List Int)).length) c637 (a0.incs ++ ([0] : List Int)), .row (tSlice 2 (tInt .i64)) 22 A626 ((a0.wrote ++ ([([] : List Int)] : List (List Int))).length) c627 (a0.wrote ++ ([([] : List Int)] : List (List Int))), .blk b0z 106 [vS A580 ((a0.keys ++ ([a1.Key] : List ByteArray)).length) c581, vS A615 l614.length c616, vS A626 ((a0.wrote ++ ([([] : List Int)] : List (List Int))).length) c627, vS A636 ((a0.incs ++ ([0] : List Int)).length) c637, vS A0z4 a0.last_.length c0z4], .row tStr 9 A580 ((a0.keys ++ ([a1.Key] : List ByteArray)).length) c581 (a0.keys ++ ([a1.Key] : List ByteArray)), .row (tInt .i64) 3 A615 l614.length c616 l614, .blk b2 97 [vI a1.Kind, .string a1.Key, vI a1.Arg, vB a1.Got, vS A1z0 a1.Vals.length c1z0]]) [0, 1, 2, 3, 4, 5, 6] (by decide) rfl
            refine bp 7 2 (oe 9 rfl ?_)
            refine e_store 103 _ _ 3 b0z 106 [vS A580 ((a0.keys ++ ([a1.Key] : List ByteArray)).length) c581, vS A615 l614.length c616, vS A626 ((a0.wrote ++ ([([] : List Int)] : List (List Int))).length) c627, vS A636 ((a0.incs ++ ([0] : List Int)).length) c637, vS A0z4 a0.last_.length c0z4] [vS A580 ((a0.keys ++ ([a1.Key] : List ByteArray)).length) c581, vS A615 l614.length c616, vS A626 ((a0.wrote ++ ([([] : List Int)] : List (List Int))).length) c627, vS A636 ((a0.incs ++ ([0] : List Int)).length) c637, vS A641 ((a0.last_ ++ ([(-1)] : List Int)).length) c642] 4 (vS A641 ((a0.last_ ++ ([(-1)] : List Int)).length) c642) rfl (by kernel_rfl) (by kernel_rfl) (by kernel_rfl) (by kernel_rfl) hI rfl (by kernel_rfl) (by kernel_rfl) ?_
            clear hI
            intro _ hI
            refine ro ?_
            exact hJ97 (a0.keys ++ ([a1.Key] : List ByteArray), l614, a0.wrote ++ ([([] : List Int)] : List (List Int)), a0.incs ++ ([0] : List Int), a0.last_ ++ ([(-1)] : List Int), (a0.keys.length : Int)) _ _ ⟨_, A580, c581, A615, c616, A626, c627, A636, c637, A641, c642, at_, hI.pick [3, 4, 5, 2, 1, 0, 6] (by decide) rfl⟩ H
          · replace H := bind_some H
            obtain ⟨y643, hy644, H⟩ := H
            replace H := must_some H
            obtain ⟨g647, H⟩ := H
            refine go_held (fun w => Inv M w [.row tStr 9 A580 ((a0.keys ++ ([a1.Key] : List ByteArray)).length) c581 (a0.keys ++ ([a1.Key] : List ByteArray)), .row (tSlice 2 (tInt .i64)) 22 A0z2 a0.wrote.length c0z2 a0.wrote, .row (tInt .i64) 3 A0z3 a0.incs.length c0z3 a0.incs, .row (tInt .i64) 3 A0z4 a0.last_.length c0z4 a0.last_, .blk b2 97 [vI a1.Kind, .string a1.Key, vI a1.Arg, vB a1.Got, vS A1z0 a1.Vals.length c1z0]]) (by kernel_rfl) ?_
            replace hI := hI.drew'
            refine hg (n := 7) [(0, .p), (1, .p), (2, .p), (3, .p), (5, .p), (6, .l 0 0)] (fun _ hS => (gA (hS.grp 4 rfl))) (hI.pk [1, 3, 4, 5, 6]) ?_
            refine held_each (n := 6) [4, 7] (by simp) (by kernel_rfl) ⟨⟨_, rfl, by kernel_rfl, ?_⟩, ⟨_, rfl, by kernel_rfl, ?_⟩, trivial⟩
            · refine (e_read (ops := #[]) [(b0z, 0, [vS A580 ((a0.keys ++ ([a1.Key] : List ByteArray)).length) c581, vS A0z1 a0.types.length c0z1, vS A0z2 a0.wrote.length c0z2, vS A0z3 a0.incs.length c0z3, vS A0z4 a0.last_.length c0z4])] (.l 0 1) (vS A0z1 a0.types.length c0z1) [] ⟨(hI.grp 0 rfl), trivial⟩ trivial (by kernel_rfl) (by kernel_rfl) (by kernel_rfl) ⟨(hI.pk [1, 3, 4, 5, 6]), ?_⟩)
              refine ho (n := 5) 7 rfl (ec (enter58 _) (assizeref05zOf_calls a1.Kind (memOf _) _ (Inv.start _) _ hy644) ?_)
              rintro _ _ ⟨rfl, hI'⟩
              replace hI := hI.call0 hI'
              clear hI'
              refine ⟨_, rfl, ?_⟩
              refine ⟨(hI.pk [1, 3, 4, 5, 6]), ?_⟩
              refine ho (n := 4) 8 rfl (e_partsS 103 3 1 _ _ _ #[vI y643] [vI y643] rfl rfl rfl rfl (by kernel_rfl) (by kernel_rfl) (by kernel_rfl) (by kernel_rfl) hI ?_)
              clear hI
              intro b652 _ hs653 hI
              refine ⟨(hI.pk [1, 3, 4, 5, 6]), ?_⟩
              refine ho (n := 3) 9 rfl (e_append (tInt .i64) 103 0 3 _ _ _ _ A0z1 a0.types.length c0z1 a0.types ([y643] : List Int) b652 0 1 1 [vI y643] 2 [] [0, 1, 3, 4, 5, 6, 7] [] [.blk b0z 106 [vS A580 ((a0.keys ++ ([a1.Key] : List ByteArray)).length) c581, vS A0z1 a0.types.length c0z1, vS A0z2 a0.wrote.length c0z2, vS A0z3 a0.incs.length c0z3, vS A0z4 a0.last_.length c0z4], .row tStr 9 A580 ((a0.keys ++ ([a1.Key] : List ByteArray)).length) c581 (a0.keys ++ ([a1.Key] : List ByteArray)), .row (tSlice 2 (tInt .i64)) 22 A0z2 a0.wrote.length c0z2 a0.wrote, .row (tInt .i64) 3 A0z3 a0.incs.length c0z3 a0.incs, .row (tInt .i64) 3 A0z4 a0.last_.length c0z4 a0.last_, .blk b2 97 [vI a1.Kind, .string a1.Key, vI a1.Arg, vB a1.Got, vS A1z0 a1.Vals.length c1z0], .blk b652 3 [vI y643]] rfl (by kernel_rfl) (by kernel_rfl) rfl rfl rfl rfl rfl (by kernel_rfl) hI (by decide) rfl rfl rfl (hI.grp 7 rfl) g647 (mks_cons (mk_flat (k := (tInt .i64)) y643 [vI y643] rfl) mks_nil) ?_)
              clear hI
              intro A656 c657 _ hI
              replace hI := hI.pick (L' := [.row (tInt .i64) 3 A656 ((a0.types ++ ([y643] : List Int)).length) c657 (a0.types ++ ([y643] : List Int)), .blk b0z 106 [vS A580 ((a0.keys ++ ([a1.Key] : List ByteArray)).length) c581, vS A0z1 a0.types.length c0z1, vS A0z2 a0.wrote.length c0z2, vS A0z3 a0.incs.length c0z3, vS A0z4 a0.last_.length c0z4], .row tStr 9 A580 ((a0.keys ++ ([a1.Key] : List ByteArray)).length) c581 (a0.keys ++ ([a1.Key] : List ByteArray)), .row (tSlice 2 (tInt .i64)) 22 A0z2 a0.wrote.length c0z2 a0.wrote, .row (tInt .i64) 3 A0z3 a0.incs.length c0z3 a0.incs, .row (tInt .i64) 3 A0z4 a0.last_.length c0z4 a0.last_, .blk b2 97 [vI a1.Kind, .string a1.Key, vI a1.Arg, vB a1.Got, vS A1z0 a1.Vals.length c1z0]]) [0, 1, 2, 3, 4, 5, 6] (by decide) rfl
              refine ⟨(hI.pk [2, 3, 4, 5, 6]), ?_⟩
              refine hg (n := 1) [(10, .p), (11, .p)] (fun _ hS => gO) (hI.pk [2, 3, 4, 5, 6]) ?_
              refine ho (n := 0) 12 rfl (e_store 103 _ _ 1 b0z 106 [vS A580 ((a0.keys ++ ([a1.Key] : List ByteArray)).length) c581, vS A0z1 a0.types.length c0z1, vS A0z2 a0.wrote.length c0z2, vS A0z3 a0.incs.length c0z3, vS A0z4 a0.last_.length c0z4] [vS A580 ((a0.keys ++ ([a1.Key] : List ByteArray)).length) c581, vS A656 ((a0.types ++ ([y643] : List Int)).length) c657, vS A0z2 a0.wrote.length c0z2, vS A0z3 a0.incs.length c0z3, vS A0z4 a0.last_.length c0z4] 1 (vS A656 ((a0.types ++ ([y643] : List Int)).length) c657) rfl (by kernel_rfl) (by kernel_rfl) (by kernel_rfl) (by kernel_rfl) hI rfl (by kernel_rfl) (by kernel_rfl) ?_)
              clear hI
              intro _ hI
              refine ⟨(hI.pk [2, 3, 4, 5, 6]), ?_⟩
              refine hd ?_
              exact hJ617 (a0.types ++ ([y643] : List Int)) _ _ ⟨_, A656, c657, at_, hI.pick [1, 2, 0, 3, 4, 5, 6] (by decide) rfl⟩ H
            · refine (e_callf _ _ _ 58 #[] #[] #[vI a1.Kind] #[vI a1.Kind] rfl (by kernel_rfl) (by kernel_rfl) (by kernel_rfl) (enter58 _) (assizeref05zOf_calls a1.Kind (memOf _) _ (Inv.start _) _ hy644) ?_)
              rintro _ _ ⟨rfl, hI'⟩
              replace hI := hI.call0 hI'
              clear hI'
              refine ⟨_, rfl, ?_⟩
              refine ⟨(hI.pk [1, 3, 4, 5, 6]), ?_⟩
              refine held_each (n := 5) [4, 8] (by simp) (by kernel_rfl) ⟨⟨_, rfl, by kernel_rfl, ?_⟩, ⟨_, rfl, by kernel_rfl, ?_⟩, trivial⟩
              · refine (e_read (ops := #[]) [(b0z, 0, [vS A580 ((a0.keys ++ ([a1.Key] : List ByteArray)).length) c581, vS A0z1 a0.types.length c0z1, vS A0z2 a0.wrote.length c0z2, vS A0z3 a0.incs.length c0z3, vS A0z4 a0.last_.length c0z4])] (.l 0 1) (vS A0z1 a0.types.length c0z1) [] ⟨(hI.grp 0 rfl), trivial⟩ trivial (by kernel_rfl) (by kernel_rfl) (by kernel_rfl) ⟨(hI.pk [1, 3, 4, 5, 6]), ?_⟩)
                refine ho (n := 4) 8 rfl (e_partsS 103 3 1 _ _ _ #[vI y643] [vI y643] rfl rfl rfl rfl (by kernel_rfl) (by kernel_rfl) (by kernel_rfl) (by kernel_rfl) hI ?_)
                clear hI
                intro b662 _ hs663 hI
                refine ⟨(hI.pk [1, 3, 4, 5, 6]), ?_⟩
                refine ho (n := 3) 9 rfl (e_append (tInt .i64) 103 0 3 _ _ _ _ A0z1 a0.types.length c0z1 a0.types ([y643] : List Int) b662 0 1 1 [vI y643] 2 [] [0, 1, 3, 4, 5, 6, 7] [] [.blk b0z 106 [vS A580 ((a0.keys ++ ([a1.Key] : List ByteArray)).length) c581, vS A0z1 a0.types.length c0z1, vS A0z2 a0.wrote.length c0z2, vS A0z3 a0.incs.length c0z3, vS A0z4 a0.last_.length c0z4], .row tStr 9 A580 ((a0.keys ++ ([a1.Key] : List ByteArray)).length) c581 (a0.keys ++ ([a1.Key] : List ByteArray)), .row (tSlice 2 (tInt .i64)) 22 A0z2 a0.wrote.length c0z2 a0.wrote, .row (tInt .i64) 3 A0z3 a0.incs.length c0z3 a0.incs, .row (tInt .i64) 3 A0z4 a0.last_.length c0z4 a0.last_, .blk b2 97 [vI a1.Kind, .string a1.Key, vI a1.Arg, vB a1.Got, vS A1z0 a1.Vals.length c1z0], .blk b662 3 [vI y643]] rfl (by kernel_rfl) (by kernel_rfl) rfl rfl rfl rfl rfl (by kernel_rfl) hI (by decide) rfl rfl rfl (hI.grp 7 rfl) g647 (mks_cons (mk_flat (k := (tInt .i64)) y643 [vI y643] rfl) mks_nil) ?_)
                clear hI
                intro A666 c667 _ hI
                replace hI := hI.pick (L' := [.row (tInt .i64) 3 A666 ((a0.types ++ ([y643] : List Int)).length) c667 (a0.types ++ ([y643] : List Int)), .blk b0z 106 [vS A580 ((a0.keys ++ ([a1.Key] : List ByteArray)).length) c581, vS A0z1 a0.types.length c0z1, vS A0z2 a0.wrote.length c0z2, vS A0z3 a0.incs.length c0z3, vS A0z4 a0.last_.length c0z4], .row tStr 9 A580 ((a0.keys ++ ([a1.Key] : List ByteArray)).length) c581 (a0.keys ++ ([a1.Key] : List ByteArray)), .row (tSlice 2 (tInt .i64)) 22 A0z2 a0.wrote.length c0z2 a0.wrote, .row (tInt .i64) 3 A0z3 a0.incs.length c0z3 a0.incs, .row (tInt .i64) 3 A0z4 a0.last_.length c0z4 a0.last_, .blk b2 97 [vI a1.Kind, .string a1.Key, vI a1.Arg, vB a1.Got, vS A1z0 a1.Vals.length c1z0]]) [0, 1, 2, 3, 4, 5, 6] (by decide) rfl
                refine ⟨(hI.pk [2, 3, 4, 5, 6]), ?_⟩
                refine hg (n := 1) [(10, .p), (11, .p)] (fun _ hS => gO) (hI.pk [2, 3, 4, 5, 6]) ?_
                refine ho (n := 0) 12 rfl (e_store 103 _ _ 1 b0z 106 [vS A580 ((a0.keys ++ ([a1.Key] : List ByteArray)).length) c581, vS A0z1 a0.types.length c0z1, vS A0z2 a0.wrote.length c0z2, vS A0z3 a0.incs.length c0z3, vS A0z4 a0.last_.length c0z4] [vS A580 ((a0.keys ++ ([a1.Key] : List ByteArray)).length) c581, vS A666 ((a0.types ++ ([y643] : List Int)).length) c667, vS A0z2 a0.wrote.length c0z2, vS A0z3 a0.incs.length c0z3, vS A0z4 a0.last_.length c0z4] 1 (vS A666 ((a0.types ++ ([y643] : List Int)).length) c667) rfl (by kernel_rfl) (by kernel_rfl) (by kernel_rfl) (by kernel_rfl) hI rfl (by kernel_rfl) (by kernel_rfl) ?_)
                clear hI
                intro _ hI
                refine ⟨(hI.pk [2, 3, 4, 5, 6]), ?_⟩
                refine hd ?_
                exact hJ617 (a0.types ++ ([y643] : List Int)) _ _ ⟨_, A666, c667, at_, hI.pick [1, 2, 0, 3, 4, 5, 6] (by decide) rfl⟩ H
              · refine (e_partsS 103 3 1 _ _ _ #[vI y643] [vI y643] rfl rfl rfl rfl (by kernel_rfl) (by kernel_rfl) (by kernel_rfl) (by kernel_rfl) hI ?_)
                clear hI
                intro b668 _ hs669 hI
                refine ⟨(hI.pk [1, 3, 4, 5, 6]), ?_⟩
                refine ho (n := 4) 4 rfl (e_read (ops := #[]) [(b0z, 0, [vS A580 ((a0.keys ++ ([a1.Key] : List ByteArray)).length) c581, vS A0z1 a0.types.length c0z1, vS A0z2 a0.wrote.length c0z2, vS A0z3 a0.incs.length c0z3, vS A0z4 a0.last_.length c0z4])] (.l 0 1) (vS A0z1 a0.types.length c0z1) [] ⟨(hI.grp 0 rfl), trivial⟩ trivial (by kernel_rfl) (by kernel_rfl) (by kernel_rfl) ⟨(hI.pk [1, 3, 4, 5, 6]), ?_⟩)
                refine ho (n := 3) 9 rfl (e_append (tInt .i64) 103 0 3 _ _ _ _ A0z1 a0.types.length c0z1 a0.types ([y643] : List Int) b668 0 1 1 [vI y643] 2 [] [0, 1, 3, 4, 5, 6, 7] [] [.blk b0z 106 [vS A580 ((a0.keys ++ ([a1.Key] : List ByteArray)).length) c581, vS A0z1 a0.types.length c0z1, vS A0z2 a0.wrote.length c0z2, vS A0z3 a0.incs.length c0z3, vS A0z4 a0.last_.length c0z4], .row tStr 9 A580 ((a0.keys ++ ([a1.Key] : List ByteArray)).length) c581 (a0.keys ++ ([a1.Key] : List ByteArray)), .row (tSlice 2 (tInt .i64)) 22 A0z2 a0.wrote.length c0z2 a0.wrote, .row (tInt .i64) 3 A0z3 a0.incs.length c0z3 a0.incs, .row (tInt .i64) 3 A0z4 a0.last_.length c0z4 a0.last_, .blk b2 97 [vI a1.Kind, .string a1.Key, vI a1.Arg, vB a1.Got, vS A1z0 a1.Vals.length c1z0], .blk b668 3 [vI y643]] rfl (by kernel_rfl) (by kernel_rfl) rfl rfl rfl rfl rfl (by kernel_rfl) hI (by decide) rfl rfl rfl (hI.grp 7 rfl) g647 (mks_cons (mk_flat (k := (tInt .i64)) y643 [vI y643] rfl) mks_nil) ?_)
                clear hI
                intro A672 c673 _ hI
                replace hI := hI.pick (L' := [.row (tInt .i64) 3 A672 ((a0.types ++ ([y643] : List Int)).length) c673 (a0.types ++ ([y643] : List Int)), .blk b0z 106 [vS A580 ((a0.keys ++ ([a1.Key] : List ByteArray)).length) c581, vS A0z1 a0.types.length c0z1, vS A0z2 a0.wrote.length c0z2, vS A0z3 a0.incs.length c0z3, vS A0z4 a0.last_.length c0z4], .row tStr 9 A580 ((a0.keys ++ ([a1.Key] : List ByteArray)).length) c581 (a0.keys ++ ([a1.Key] : List ByteArray)), .row (tSlice 2 (tInt .i64)) 22 A0z2 a0.wrote.length c0z2 a0.wrote, .row (tInt .i64) 3 A0z3 a0.incs.length c0z3 a0.incs, .row (tInt .i64) 3 A0z4 a0.last_.length c0z4 a0.last_, .blk b2 97 [vI a1.Kind, .string a1.Key, vI a1.Arg, vB a1.Got, vS A1z0 a1.Vals.length c1z0]]) [0, 1, 2, 3, 4, 5, 6] (by decide) rfl
                refine ⟨(hI.pk [2, 3, 4, 5, 6]), ?_⟩
                refine hg (n := 1) [(10, .p), (11, .p)] (fun _ hS => gO) (hI.pk [2, 3, 4, 5, 6]) ?_
                refine ho (n := 0) 12 rfl (e_store 103 _ _ 1 b0z 106 [vS A580 ((a0.keys ++ ([a1.Key] : List ByteArray)).length) c581, vS A0z1 a0.types.length c0z1, vS A0z2 a0.wrote.length c0z2, vS A0z3 a0.incs.length c0z3, vS A0z4 a0.last_.length c0z4] [vS A580 ((a0.keys ++ ([a1.Key] : List ByteArray)).length) c581, vS A672 ((a0.types ++ ([y643] : List Int)).length) c673, vS A0z2 a0.wrote.length c0z2, vS A0z3 a0.incs.length c0z3, vS A0z4 a0.last_.length c0z4] 1 (vS A672 ((a0.types ++ ([y643] : List Int)).length) c673) rfl (by kernel_rfl) (by kernel_rfl) (by kernel_rfl) (by kernel_rfl) hI rfl (by kernel_rfl) (by kernel_rfl) ?_)
                clear hI
                intro _ hI
                refine ⟨(hI.pk [2, 3, 4, 5, 6]), ?_⟩
                refine hd ?_
                exact hJ617 (a0.types ++ ([y643] : List Int)) _ _ ⟨_, A672, c673, at_, hI.pick [1, 2, 0, 3, 4, 5, 6] (by decide) rfl⟩ H
        · replace H := must_some H
          obtain ⟨g676, H⟩ := H
          refine go_held (fun w => Inv M w [.row (tInt .i64) 3 A0z1 a0.types.length c0z1 a0.types, .row (tSlice 2 (tInt .i64)) 22 A0z2 a0.wrote.length c0z2 a0.wrote, .row (tInt .i64) 3 A0z3 a0.incs.length c0z3 a0.incs, .row (tInt .i64) 3 A0z4 a0.last_.length c0z4 a0.last_, .blk b2 97 [vI a1.Kind, .string a1.Key, vI a1.Arg, vB a1.Got, vS A1z0 a1.Vals.length c1z0]]) (by kernel_rfl) ?_
          replace hI := hI.drew'
          refine hg (n := 6) [(0, .p), (1, .p), (2, .p), (3, .p), (5, .p), (6, .l 0 1)] (fun _ hS => (gA (hS.grp 4 rfl))) (hI.pk [2, 3, 4, 5, 6]) ?_
          refine held_each (n := 5) [4, 7] (by simp) (by kernel_rfl) ⟨⟨_, rfl, by kernel_rfl, ?_⟩, ⟨_, rfl, by kernel_rfl, ?_⟩, trivial⟩
          · refine (e_read (ops := #[]) [(b0z, 0, [vS A0z0 a0.keys.length c0z0, vS A0z1 a0.types.length c0z1, vS A0z2 a0.wrote.length c0z2, vS A0z3 a0.incs.length c0z3, vS A0z4 a0.last_.length c0z4])] (.l 0 0) (vS A0z0 a0.keys.length c0z0) [] ⟨(hI.grp 0 rfl), trivial⟩ trivial (by kernel_rfl) (by kernel_rfl) (by kernel_rfl) ⟨(hI.pk [2, 3, 4, 5, 6]), ?_⟩)
            refine ho (n := 4) 7 rfl (e_partsS 37 9 1 _ _ _ #[.string a1.Key] [.string a1.Key] rfl rfl rfl rfl (by kernel_rfl) (by kernel_rfl) (by kernel_rfl) (by kernel_rfl) hI ?_)
            clear hI
            intro b683 _ hs684 hI
            refine ⟨(hI.pk [2, 3, 4, 5, 6]), ?_⟩
            refine ho (n := 3) 8 rfl (e_append tStr 37 0 9 _ _ _ _ A0z0 a0.keys.length c0z0 a0.keys ([a1.Key] : List ByteArray) b683 0 1 1 [.string a1.Key] 1 [] [0, 2, 3, 4, 5, 6, 7] [] [.blk b0z 106 [vS A0z0 a0.keys.length c0z0, vS A0z1 a0.types.length c0z1, vS A0z2 a0.wrote.length c0z2, vS A0z3 a0.incs.length c0z3, vS A0z4 a0.last_.length c0z4], .row (tInt .i64) 3 A0z1 a0.types.length c0z1 a0.types, .row (tSlice 2 (tInt .i64)) 22 A0z2 a0.wrote.length c0z2 a0.wrote, .row (tInt .i64) 3 A0z3 a0.incs.length c0z3 a0.incs, .row (tInt .i64) 3 A0z4 a0.last_.length c0z4 a0.last_, .blk b2 97 [vI a1.Kind, .string a1.Key, vI a1.Arg, vB a1.Got, vS A1z0 a1.Vals.length c1z0], .blk b683 9 [.string a1.Key]] rfl (by kernel_rfl) (by kernel_rfl) rfl rfl rfl rfl rfl (by kernel_rfl) hI (by decide) rfl rfl rfl (hI.grp 7 rfl) g676 (mks_cons (mk_flat (k := tStr) a1.Key [.string a1.Key] rfl) mks_nil) ?_)
            clear hI
            intro A687 c688 _ hI
            replace hI := hI.pick (L' := [.row tStr 9 A687 ((a0.keys ++ ([a1.Key] : List ByteArray)).length) c688 (a0.keys ++ ([a1.Key] : List ByteArray)), .blk b0z 106 [vS A0z0 a0.keys.length c0z0, vS A0z1 a0.types.length c0z1, vS A0z2 a0.wrote.length c0z2, vS A0z3 a0.incs.length c0z3, vS A0z4 a0.last_.length c0z4], .row (tInt .i64) 3 A0z1 a0.types.length c0z1 a0.types, .row (tSlice 2 (tInt .i64)) 22 A0z2 a0.wrote.length c0z2 a0.wrote, .row (tInt .i64) 3 A0z3 a0.incs.length c0z3 a0.incs, .row (tInt .i64) 3 A0z4 a0.last_.length c0z4 a0.last_, .blk b2 97 [vI a1.Kind, .string a1.Key, vI a1.Arg, vB a1.Got, vS A1z0 a1.Vals.length c1z0]]) [0, 1, 2, 3, 4, 5, 6] (by decide) rfl
            refine ⟨(hI.pk [2, 3, 4, 5, 6]), ?_⟩
            refine hg (n := 1) [(9, .p), (10, .p)] (fun _ hS => gO) (hI.pk [2, 3, 4, 5, 6]) ?_
            refine ho (n := 0) 11 rfl (e_store 37 _ _ 1 b0z 106 [vS A0z0 a0.keys.length c0z0, vS A0z1 a0.types.length c0z1, vS A0z2 a0.wrote.length c0z2, vS A0z3 a0.incs.length c0z3, vS A0z4 a0.last_.length c0z4] [vS A687 ((a0.keys ++ ([a1.Key] : List ByteArray)).length) c688, vS A0z1 a0.types.length c0z1, vS A0z2 a0.wrote.length c0z2, vS A0z3 a0.incs.length c0z3, vS A0z4 a0.last_.length c0z4] 0 (vS A687 ((a0.keys ++ ([a1.Key] : List ByteArray)).length) c688) rfl (by kernel_rfl) (by kernel_rfl) (by kernel_rfl) (by kernel_rfl) hI rfl (by kernel_rfl) (by kernel_rfl) ?_)
            clear hI
            intro _ hI
            refine ⟨(hI.pk [2, 3, 4, 5, 6]), ?_⟩
            refine hd ?_
            exact hJ582 () _ _ ⟨_, A687, c688, at_, hI.pick [1, 0, 2, 3, 4, 5, 6] (by decide) rfl⟩ H
          · refine (e_partsS 37 9 1 _ _ _ #[.string a1.Key] [.string a1.Key] rfl rfl rfl rfl (by kernel_rfl) (by kernel_rfl) (by kernel_rfl) (by kernel_rfl) hI ?_)
            clear hI
            intro b689 _ hs690 hI
            refine ⟨(hI.pk [2, 3, 4, 5, 6]), ?_⟩
            refine ho (n := 4) 4 rfl (e_read (ops := #[]) [(b0z, 0, [vS A0z0 a0.keys.length c0z0, vS A0z1 a0.types.length c0z1, vS A0z2 a0.wrote.length c0z2, vS A0z3 a0.incs.length c0z3, vS A0z4 a0.last_.length c0z4])] (.l 0 0) (vS A0z0 a0.keys.length c0z0) [] ⟨(hI.grp 0 rfl), trivial⟩ trivial (by kernel_rfl) (by kernel_rfl) (by kernel_rfl) ⟨(hI.pk [2, 3, 4, 5, 6]), ?_⟩)
            refine ho (n := 3) 8 rfl (e_append tStr 37 0 9 _ _ _ _ A0z0 a0.keys.length c0z0 a0.keys ([a1.Key] : List ByteArray) b689 0 1 1 [.string a1.Key] 1 [] [0, 2, 3, 4, 5, 6, 7] [] [.blk b0z 106 [vS A0z0 a0.keys.length c0z0, vS A0z1 a0.types.length c0z1, vS A0z2 a0.wrote.length c0z2, vS A0z3 a0.incs.length c0z3, vS A0z4 a0.last_.length c0z4], .row (tInt .i64) 3 A0z1 a0.types.length c0z1 a0.types, .row (tSlice 2 (tInt .i64)) 22 A0z2 a0.wrote.length c0z2 a0.wrote, .row (tInt .i64) 3 A0z3 a0.incs.length c0z3 a0.incs, .row (tInt .i64) 3 A0z4 a0.last_.length c0z4 a0.last_, .blk b2 97 [vI a1.Kind, .string a1.Key, vI a1.Arg, vB a1.Got, vS A1z0 a1.Vals.length c1z0], .blk b689 9 [.string a1.Key]] rfl (by kernel_rfl) (by kernel_rfl) rfl rfl rfl rfl rfl (by kernel_rfl) hI (by decide) rfl rfl rfl (hI.grp 7 rfl) g676 (mks_cons (mk_flat (k := tStr) a1.Key [.string a1.Key] rfl) mks_nil) ?_)
            clear hI
            intro A693 c694 _ hI
            replace hI := hI.pick (L' := [.row tStr 9 A693 ((a0.keys ++ ([a1.Key] : List ByteArray)).length) c694 (a0.keys ++ ([a1.Key] : List ByteArray)), .blk b0z 106 [vS A0z0 a0.keys.length c0z0, vS A0z1 a0.types.length c0z1, vS A0z2 a0.wrote.length c0z2, vS A0z3 a0.incs.length c0z3, vS A0z4 a0.last_.length c0z4], .row (tInt .i64) 3 A0z1 a0.types.length c0z1 a0.types, .row (tSlice 2 (tInt .i64)) 22 A0z2 a0.wrote.length c0z2 a0.wrote, .row (tInt .i64) 3 A0z3 a0.incs.length c0z3 a0.incs, .row (tInt .i64) 3 A0z4 a0.last_.length c0z4 a0.last_, .blk b2 97 [vI a1.Kind, .string a1.Key, vI a1.Arg, vB a1.Got, vS A1z0 a1.Vals.length c1z0]]) [0, 1, 2, 3, 4, 5, 6] (by decide) rfl
            refine ⟨(hI.pk [2, 3, 4, 5, 6]), ?_⟩
            refine hg (n := 1) [(9, .p), (10, .p)] (fun _ hS => gO) (hI.pk [2, 3, 4, 5, 6]) ?_
            refine ho (n := 0) 11 rfl (e_store 37 _ _ 1 b0z 106 [vS A0z0 a0.keys.length c0z0, vS A0z1 a0.types.length c0z1, vS A0z2 a0.wrote.length c0z2, vS A0z3 a0.incs.length c0z3, vS A0z4 a0.last_.length c0z4] [vS A693 ((a0.keys ++ ([a1.Key] : List ByteArray)).length) c694, vS A0z1 a0.types.length c0z1, vS A0z2 a0.wrote.length c0z2, vS A0z3 a0.incs.length c0z3, vS A0z4 a0.last_.length c0z4] 0 (vS A693 ((a0.keys ++ ([a1.Key] : List ByteArray)).length) c694) rfl (by kernel_rfl) (by kernel_rfl) (by kernel_rfl) (by kernel_rfl) hI rfl (by kernel_rfl) (by kernel_rfl) ?_)
            clear hI
            intro _ hI
            refine ⟨(hI.pk [2, 3, 4, 5, 6]), ?_⟩
            refine hd ?_
            exact hJ582 () _ _ ⟨_, A693, c694, at_, hI.pick [1, 0, 2, 3, 4, 5, 6] (by decide) rfl⟩ H
    · refine ge hc556 (go_skip ?_)
      exact hJ97 (a0.keys, a0.types, a0.wrote, a0.incs, a0.last_, y5) _ _ ⟨_, A0z0, c0z0, A0z1, c0z1, A0z2, c0z2, A0z3, c0z3, A0z4, c0z4, at_, hI⟩ H

end Go.Proofs.YtmfihodpbladeaaT
