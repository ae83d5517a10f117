/- The walks, part 2: each call computes its plain function. -/
import Derived.Test.YtmfihodpbladeaaTW1
import Derived.Test.YtmfihodpbladeaaProg
namespace Go.Proofs.YtmfihodpbladeaaT
open Go Go.Proofs Go.Proofs.YtmfihodpbladeaaE
set_option linter.unusedVariables false
set_option linter.unusedSimpArgs false
set_option maxHeartbeats 0
set_option maxRecDepth 4096
/-! ### local_found_look -/
theorem enter42 (a : Array Value) : Sem.pureRun Try.prog (callFunc 42 a) = some (.enter 42 a) := by kernel_rfl
theorem local_found_look_calls (b0z : Nat) (a0 : LocalFound) (A0z0 : Option Addr) (c0z0 : Nat) (A0z1 : Option Addr) (c0z1 : Nat) (a1 : History) (A1z0 : Option Addr) (c1z0 : Nat) (A1z1 : Option Addr) (c1z1 : Nat) (a2 : Int) (M : Mem) (w : World) (hI : Inv M w [.blk b0z 75 [vS A0z0 a0.asks.length c0z0, vS A0z1 a0.bad.length c0z1], .row kAsk 51 A0z0 a0.asks.length c0z0 a0.asks, .row kSpot 53 A0z1 a0.bad.length c0z1 a0.bad]) (hr1z0 : rdS tStr M.blk A1z0 a1.Keys) (hl1z0 : a1.Keys.length ≤ c1z0) (hr1z1 : rdS kTxn M.blk A1z1 a1.Txns) (hl1z1 : a1.Txns.length ≤ c1z1) (r : LocalFound) (H : local_found_look a0 a1 a2 = some r) :
    Calls Try.prog 42 #[vP b0z 0, .agg #[vS A1z0 a1.Keys.length c1z0, vS A1z1 a1.Txns.length c1z1], vI a2] w fun e w' => ∃ (A1197 : Option Addr), ∃ (c1198 : Nat), ∃ (A1199 : Option Addr), ∃ (c1200 : Nat), e = .returned (.tuple #[]) ∧ Inv M w' [.blk b0z 75 [vS A1197 r.asks.length c1198, vS A1199 r.bad.length c1200], .row kAsk 51 A1197 r.asks.length c1198 r.asks, .row kSpot 53 A1199 r.bad.length c1200 r.bad] := by
  refine cg Try.func42 ?_
  intro cs
  unfold local_found_look at H
  refine go_seq (r_in (oe 0 rfl ?_))
  refine e_box 40 _ (.agg #[vS A1z0 a1.Keys.length c1z0, vS A1z1 a1.Txns.length c1z1]) [vS A1z0 a1.Keys.length c1z0, vS A1z1 a1.Txns.length c1z1] rfl (by kernel_rfl) rfl hI ?_
  clear hI
  intro b2 _ hI
  refine ro (go_seq (go_seq (r_in ?_)))
  replace H := must_some H
  obtain ⟨g24, H⟩ := H
  obtain ⟨b28, q29, rfl, cs27, hk26, hg25⟩ := rdS.open hr1z1 rfl g24
  obtain ⟨_, _, rfl, rfl, ⟨_, _, rfl, rfl, ⟨_, _, rfl, rfl, ⟨_, _, rfl, rfl, ⟨A30, c31, rfl, hl33, hr32⟩⟩⟩⟩⟩ := hk26
  refine bx 0 [.p, .l 0 1, .p, .x, .p, .l 1 1, .p] (gB (hI.grp 3 rfl) (hI.lies hg25)) _ (bZ g24) (ro ?_)
  replace H := cond_some H
  rcases H with ⟨hc34, H⟩ | ⟨hc34, H⟩
  · refine gt hc34 ?_
    replace H := Option.some.inj H
    subst H
    exact gr Try.func42 ⟨A0z0, c0z0, A0z1, c0z1, rfl, hI.pick [0, 1, 2] (by decide) rfl⟩
  · refine ge hc34 (go_skip (go_seq (r_in (oe 0 rfl ?_))))
    refine e_makemapO Int (List Int) (fun x : Int => vI x) (tSlice 2 (tInt .i64)) 100 rfl hI ?_
    clear hI
    intro b36 _ hI
    refine bp 1 1 (ro (go_seq (r_in ?_)))
    obtain ⟨cs46, hk45, hg44⟩ := rdS.look hr1z1 rfl g24
    obtain ⟨_, _, rfl, rfl, ⟨_, _, rfl, rfl, ⟨_, _, rfl, rfl, ⟨_, _, rfl, rfl, ⟨A47, c48, rfl, hl50, hr49⟩⟩⟩⟩⟩ := hk45
    refine bx 0 [.p, .l 0 1, .p, .x, .p, .l 1 4, .p, .p] (gB (hI.grp 3 rfl) (hI.lies hg44)) _ (bZ g24) (ro (go_block ?_))
    refine go_iter (local_found_look.s1 a1 a2) (fun (l709, l712, m715, x716) f w => ∃ (j : Nat → Value) (A710 : Option Addr) (c711 : Nat) (A713 : Option Addr) (c714 : Nat), f = updL j [(0, vP b0z 0), (2, vI a2), (6, .map (some b36)), (25, vS A47 (((idx a1.Txns a2).Ops).length) c48), (26, vI (((idx a1.Txns a2).Ops).length : Int)), (27, vI x716)] ∧ Inv M w [.blk b0z 75 [vS A710 l709.length c711, vS A713 l712.length c714], .row kAsk 51 A710 l709.length c711 l709, .row kSpot 53 A713 l712.length c714 l712, mapO (fun x : Int => vI x) (tSlice 2 (tInt .i64)) b36 m715]) H ⟨_, A0z0, c0z0, A0z1, c0z1, at_, hI.pick [0, 1, 2, 4] (by decide) rfl⟩ ?_
    clear H hI
    rintro ⟨l709, l712, m715, x716⟩ _ _ o1 H ⟨_, A710, c711, A713, c714, rfl, hI⟩ hin1 hout1
    refine go_seq (rp 1 (go_seq ?_))
    replace H := cond_some H
    rcases H with ⟨hc718, H⟩ | ⟨hc718, H⟩
    · refine gt hc718 (go_skip (go_seq ?_))
      refine go_block_join (o := o1) (fun (l938, l941, m944) f w => ∃ (j : Nat → Value) (A939 : Option Addr) (c940 : Nat) (A942 : Option Addr) (c943 : Nat), f = updL j [(0, vP b0z 0), (2, vI a2), (6, .map (some b36)), (25, vS A47 (((idx a1.Txns a2).Ops).length) c48), (26, vI (((idx a1.Txns a2).Ops).length : Int)), (27, vI x716)] ∧ Inv M w [.blk b0z 75 [vS A939 l938.length c940, vS A942 l941.length c943], .row kAsk 51 A939 l938.length c940 l938, .row kSpot 53 A942 l941.length c943 l941, mapO (fun x : Int => vI x) (tSlice 2 (tInt .i64)) b36 m944]) (fun (l938, l941, m944) => local_found_look.j2 x716 l938 l941 m944) ?_ (fun hJ945 => ?_)
      · clear H hI
        rintro ⟨l938, l941, m944⟩ _ _ ⟨_, A939, c940, A942, c943, rfl, hI⟩ H
        refine rp 2 ?_
        exact hin1 _ (Option.some.inj H).symm _ _ ⟨_, A939, c940, A942, c943, at_, hI⟩
      · refine go_seq (r_in ?_)
        replace H := must_some H
        obtain ⟨g957, H⟩ := H
        obtain ⟨b961, q962, rfl, cs960, hk959, hg958⟩ := rdS.open hr49 rfl g957
        obtain ⟨_, _, rfl, rfl, ⟨_, _, rfl, rfl, ⟨_, _, rfl, rfl, ⟨_, _, rfl, rfl, ⟨A963, c964, rfl, hl966, hr965⟩⟩⟩⟩⟩ := hk959
        refine bx 0 [.p, .x, .l 0 0] (gA (hI.lies hg958)) _ (bZ g957) (oe 3 rfl ?_)
        refine e_alloc 63 (.agg #[vI 0, vI 0, vI 0, vB false, vS none 0 0]) [vI 0, vI 0, vI 0, vB false, vS none 0 0] rfl (by kernel_rfl) rfl hI ?_
        clear hI
        intro b967 _ hI
        refine bp 4 1 (oe 5 rfl ?_)
        refine e_store 63 _ _ 4 b967 63 [vI 0, vI 0, vI 0, vB false, vS none 0 0] [vI ((idx ((idx a1.Txns a2).Ops) x716).Kind), vI ((idx ((idx a1.Txns a2).Ops) x716).Key), vI ((idx ((idx a1.Txns a2).Ops) x716).Arg), vB ((idx ((idx a1.Txns a2).Ops) x716).Got), vS A963 (((idx ((idx a1.Txns a2).Ops) x716).Vals).length) c964] 0 (.agg #[vI ((idx ((idx a1.Txns a2).Ops) x716).Kind), vI ((idx ((idx a1.Txns a2).Ops) x716).Key), vI ((idx ((idx a1.Txns a2).Ops) x716).Arg), vB ((idx ((idx a1.Txns a2).Ops) x716).Got), vS A963 (((idx ((idx a1.Txns a2).Ops) x716).Vals).length) c964]) rfl (by kernel_rfl) (by kernel_rfl) (by kernel_rfl) (by kernel_rfl) hI rfl (by kernel_rfl) (by kernel_rfl) ?_
        clear hI
        intro _ hI
        refine ro (go_seq (go_seq (rg [.p, .l 0 0, .p] (gA (hI.grp 4 rfl)) ?_)))
        replace H := cond_some H
        rcases H with ⟨hc1015, H⟩ | ⟨hc1015, H⟩
        · refine gt hc1015 (go_seq ?_)
          replace H := must_some H
          obtain ⟨g1069, H⟩ := H
          refine go_held (fun w => Inv M w [.blk b0z 75 [vS A710 l709.length c711, vS A713 l712.length c714], .row kAsk 51 A710 l709.length c711 l709, .row kSpot 53 A713 l712.length c714 l712, .blk b967 63 [vI ((idx ((idx a1.Txns a2).Ops) x716).Kind), vI ((idx ((idx a1.Txns a2).Ops) x716).Key), vI ((idx ((idx a1.Txns a2).Ops) x716).Arg), vB ((idx ((idx a1.Txns a2).Ops) x716).Got), vS A963 (((idx ((idx a1.Txns a2).Ops) x716).Vals).length) c964]]) (by kernel_rfl) ?_
          replace hI := hI.drew'
          refine hg (n := 4) [(0, .p), (1, .p), (2, .l 0 1), (3, .p), (4, .p), (5, .l 0 1), (7, .p), (8, .l 0 2)] (fun _ hS => (gA (hS.grp 3 rfl))) (hI.pk [0, 1, 2, 4]) ?_
          refine held_each (n := 3) [6, 9] (by simp) (by kernel_rfl) ⟨⟨_, rfl, by kernel_rfl, ?_⟩, ⟨_, rfl, by kernel_rfl, ?_⟩, trivial⟩
          · refine (e_lookupO (ek := (fun x : Int => vI x)) (kt := (tInt .i64)) (e := 2) 100 3 22 _ _ false 3 b36 m715 ((idx ((idx a1.Txns a2).Ops) x716).Key) rfl (by kernel_rfl) (key_int (by kernel_rfl)) (fun _ => by kernel_rfl) (by kernel_rfl) (by kernel_rfl) hI rfl ?_)
            intro A1079 c1080 hr1081 hl1082 hat1083
            replace hI := hI.pin 3 rfl hat1083
            refine ⟨(hI.pk [0, 1, 2, 4]), ?_⟩
            refine ho (n := 2) 9 rfl (e_partsS 22 2 1 _ _ _ #[vI ((idx ((idx a1.Txns a2).Ops) x716).Arg)] [vI ((idx ((idx a1.Txns a2).Ops) x716).Arg)] rfl rfl rfl rfl (by kernel_rfl) (by kernel_rfl) (by kernel_rfl) (by kernel_rfl) hI ?_)
            clear hI
            intro b1086 _ hs1087 hI
            refine ⟨(hI.pk [0, 1, 2, 4]), ?_⟩
            replace hI := hI.takeP 3 rfl
            refine ho (n := 1) 10 rfl (e_append (tInt .i64) 22 0 2 _ _ _ _ A1079 ((mat m715 ((idx ((idx a1.Txns a2).Ops) x716).Key)).length) c1080 (mat m715 ((idx ((idx a1.Txns a2).Ops) x716).Key)) ([(idx ((idx a1.Txns a2).Ops) x716).Arg] : List Int) b1086 0 1 1 [vI ((idx ((idx a1.Txns a2).Ops) x716).Arg)] 0 [] [1, 2, 3, 4, 5, 6] [] [.blk b0z 75 [vS A710 l709.length c711, vS A713 l712.length c714], .row kAsk 51 A710 l709.length c711 l709, .row kSpot 53 A713 l712.length c714 l712, mapO (fun x : Int => vI x) (tOpt (tSlice 2 (tInt .i64))) b36 (mhole m715 ((idx ((idx a1.Txns a2).Ops) x716).Key) [vS A1079 (mat m715 ((idx ((idx a1.Txns a2).Ops) x716).Key)).length c1080]), .blk b967 63 [vI ((idx ((idx a1.Txns a2).Ops) x716).Kind), vI ((idx ((idx a1.Txns a2).Ops) x716).Key), vI ((idx ((idx a1.Txns a2).Ops) x716).Arg), vB ((idx ((idx a1.Txns a2).Ops) x716).Got), vS A963 (((idx ((idx a1.Txns a2).Ops) x716).Vals).length) c964], .blk b1086 2 [vI ((idx ((idx a1.Txns a2).Ops) x716).Arg)]] rfl (by kernel_rfl) (by kernel_rfl) rfl rfl rfl rfl rfl (by kernel_rfl) hI (by decide) rfl rfl rfl (hI.grp 6 rfl) g1069 (mks_cons (mk_flat (k := (tInt .i64)) ((idx ((idx a1.Txns a2).Ops) x716).Arg) [vI ((idx ((idx a1.Txns a2).Ops) x716).Arg)] rfl) mks_nil) ?_)
            clear hI
            intro A1090 c1091 _ hI
            replace hI := hI.pick (L' := [.row (tInt .i64) 2 A1090 (((mat m715 ((idx ((idx a1.Txns a2).Ops) x716).Key)) ++ ([(idx ((idx a1.Txns a2).Ops) x716).Arg] : List Int)).length) c1091 ((mat m715 ((idx ((idx a1.Txns a2).Ops) x716).Key)) ++ ([(idx ((idx a1.Txns a2).Ops) x716).Arg] : List Int)), .blk b0z 75 [vS A710 l709.length c711, vS A713 l712.length c714], .row kAsk 51 A710 l709.length c711 l709, .row kSpot 53 A713 l712.length c714 l712, mapO (fun x : Int => vI x) (tOpt (tSlice 2 (tInt .i64))) b36 (mhole m715 ((idx ((idx a1.Txns a2).Ops) x716).Key) [vS A1079 (mat m715 ((idx ((idx a1.Txns a2).Ops) x716).Key)).length c1080]), .blk b967 63 [vI ((idx ((idx a1.Txns a2).Ops) x716).Kind), vI ((idx ((idx a1.Txns a2).Ops) x716).Key), vI ((idx ((idx a1.Txns a2).Ops) x716).Arg), vB ((idx ((idx a1.Txns a2).Ops) x716).Got), vS A963 (((idx ((idx a1.Txns a2).Ops) x716).Vals).length) c964]]) [0, 1, 2, 3, 4, 5] (by decide) rfl
            refine ⟨(hI.pk [1, 2, 3, 5]), ?_⟩
            refine ho (n := 0) 11 rfl (e_mapputO (kv := tOpt (tSlice 2 (tInt .i64))) (ek := (fun x : Int => vI x)) 100 3 22 _ _ _ 4 [0] [1, 2, 3, 5] [.row (tInt .i64) 2 A1090 (((mat m715 ((idx ((idx a1.Txns a2).Ops) x716).Key)) ++ ([(idx ((idx a1.Txns a2).Ops) x716).Arg] : List Int)).length) c1091 ((mat m715 ((idx ((idx a1.Txns a2).Ops) x716).Key)) ++ ([(idx ((idx a1.Txns a2).Ops) x716).Arg] : List Int))] [.blk b0z 75 [vS A710 l709.length c711, vS A713 l712.length c714], .row kAsk 51 A710 l709.length c711 l709, .row kSpot 53 A713 l712.length c714 l712, .blk b967 63 [vI ((idx ((idx a1.Txns a2).Ops) x716).Kind), vI ((idx ((idx a1.Txns a2).Ops) x716).Key), vI ((idx ((idx a1.Txns a2).Ops) x716).Arg), vB ((idx ((idx a1.Txns a2).Ops) x716).Got), vS A963 (((idx ((idx a1.Txns a2).Ops) x716).Vals).length) c964]] b36 (mhole m715 ((idx ((idx a1.Txns a2).Ops) x716).Key) [vS A1079 (mat m715 ((idx ((idx a1.Txns a2).Ops) x716).Key)).length c1080]) ((idx ((idx a1.Txns a2).Ops) x716).Key) (Sum.inl ((mat m715 ((idx ((idx a1.Txns a2).Ops) x716).Key)) ++ ([(idx ((idx a1.Txns a2).Ops) x716).Arg] : List Int))) (vS A1090 (((mat m715 ((idx ((idx a1.Txns a2).Ops) x716).Key)) ++ ([(idx ((idx a1.Txns a2).Ops) x716).Arg] : List Int)).length) c1091) rfl (by kernel_rfl) (key_int (by kernel_rfl)) (by kernel_rfl) (by kernel_rfl) (by kernel_rfl) rfl hI (by decide) rfl mk_row ?_)
            clear hI
            intro _ hI
            replace hI := hI.mapback 0 (mput m715 ((idx ((idx a1.Txns a2).Ops) x716).Key) ((mat m715 ((idx ((idx a1.Txns a2).Ops) x716).Key)) ++ ([(idx ((idx a1.Txns a2).Ops) x716).Arg] : List Int))) rfl mhole_put
            refine ⟨(hI.pk [1, 2, 3, 4]), ?_⟩
            refine hd ?_
            refine go_exit rfl ?_
            exact hJ945 (l709, l712, mput m715 ((idx ((idx a1.Txns a2).Ops) x716).Key) ((mat m715 ((idx ((idx a1.Txns a2).Ops) x716).Key)) ++ ([(idx ((idx a1.Txns a2).Ops) x716).Arg] : List Int))) _ _ ⟨_, A710, c711, A713, c714, at_, hI.pick [1, 2, 3, 0] (by decide) rfl⟩ H
          · refine (e_partsS 22 2 1 _ _ _ #[vI ((idx ((idx a1.Txns a2).Ops) x716).Arg)] [vI ((idx ((idx a1.Txns a2).Ops) x716).Arg)] rfl rfl rfl rfl (by kernel_rfl) (by kernel_rfl) (by kernel_rfl) (by kernel_rfl) hI ?_)
            clear hI
            intro b1092 _ hs1093 hI
            refine ⟨(hI.pk [0, 1, 2, 4]), ?_⟩
            refine ho (n := 2) 6 rfl (e_lookupO (ek := (fun x : Int => vI x)) (kt := (tInt .i64)) (e := 2) 100 3 22 _ _ false 3 b36 m715 ((idx ((idx a1.Txns a2).Ops) x716).Key) rfl (by kernel_rfl) (key_int (by kernel_rfl)) (fun _ => by kernel_rfl) (by kernel_rfl) (by kernel_rfl) hI rfl ?_)
            intro A1099 c1100 hr1101 hl1102 hat1103
            replace hI := hI.pin 3 rfl hat1103
            refine ⟨(hI.pk [0, 1, 2, 4]), ?_⟩
            replace hI := hI.takeP 3 rfl
            refine ho (n := 1) 10 rfl (e_append (tInt .i64) 22 0 2 _ _ _ _ A1099 ((mat m715 ((idx ((idx a1.Txns a2).Ops) x716).Key)).length) c1100 (mat m715 ((idx ((idx a1.Txns a2).Ops) x716).Key)) ([(idx ((idx a1.Txns a2).Ops) x716).Arg] : List Int) b1092 0 1 1 [vI ((idx ((idx a1.Txns a2).Ops) x716).Arg)] 0 [] [1, 2, 3, 4, 5, 6] [] [.blk b0z 75 [vS A710 l709.length c711, vS A713 l712.length c714], .row kAsk 51 A710 l709.length c711 l709, .row kSpot 53 A713 l712.length c714 l712, mapO (fun x : Int => vI x) (tOpt (tSlice 2 (tInt .i64))) b36 (mhole m715 ((idx ((idx a1.Txns a2).Ops) x716).Key) [vS A1099 (mat m715 ((idx ((idx a1.Txns a2).Ops) x716).Key)).length c1100]), .blk b967 63 [vI ((idx ((idx a1.Txns a2).Ops) x716).Kind), vI ((idx ((idx a1.Txns a2).Ops) x716).Key), vI ((idx ((idx a1.Txns a2).Ops) x716).Arg), vB ((idx ((idx a1.Txns a2).Ops) x716).Got), vS A963 (((idx ((idx a1.Txns a2).Ops) x716).Vals).length) c964], .blk b1092 2 [vI ((idx ((idx a1.Txns a2).Ops) x716).Arg)]] rfl (by kernel_rfl) (by kernel_rfl) rfl rfl rfl rfl rfl (by kernel_rfl) hI (by decide) rfl rfl rfl (hI.grp 6 rfl) g1069 (mks_cons (mk_flat (k := (tInt .i64)) ((idx ((idx a1.Txns a2).Ops) x716).Arg) [vI ((idx ((idx a1.Txns a2).Ops) x716).Arg)] rfl) mks_nil) ?_)
            clear hI
            intro A1106 c1107 _ hI
            replace hI := hI.pick (L' := [.row (tInt .i64) 2 A1106 (((mat m715 ((idx ((idx a1.Txns a2).Ops) x716).Key)) ++ ([(idx ((idx a1.Txns a2).Ops) x716).Arg] : List Int)).length) c1107 ((mat m715 ((idx ((idx a1.Txns a2).Ops) x716).Key)) ++ ([(idx ((idx a1.Txns a2).Ops) x716).Arg] : List Int)), .blk b0z 75 [vS A710 l709.length c711, vS A713 l712.length c714], .row kAsk 51 A710 l709.length c711 l709, .row kSpot 53 A713 l712.length c714 l712, mapO (fun x : Int => vI x) (tOpt (tSlice 2 (tInt .i64))) b36 (mhole m715 ((idx ((idx a1.Txns a2).Ops) x716).Key) [vS A1099 (mat m715 ((idx ((idx a1.Txns a2).Ops) x716).Key)).length c1100]), .blk b967 63 [vI ((idx ((idx a1.Txns a2).Ops) x716).Kind), vI ((idx ((idx a1.Txns a2).Ops) x716).Key), vI ((idx ((idx a1.Txns a2).Ops) x716).Arg), vB ((idx ((idx a1.Txns a2).Ops) x716).Got), vS A963 (((idx ((idx a1.Txns a2).Ops) x716).Vals).length) c964]]) [0, 1, 2, 3, 4, 5] (by decide) rfl
            refine ⟨(hI.pk [1, 2, 3, 5]), ?_⟩
            refine ho (n := 0) 11 rfl (e_mapputO (kv := tOpt (tSlice 2 (tInt .i64))) (ek := (fun x : Int => vI x)) 100 3 22 _ _ _ 4 [0] [1, 2, 3, 5] [.row (tInt .i64) 2 A1106 (((mat m715 ((idx ((idx a1.Txns a2).Ops) x716).Key)) ++ ([(idx ((idx a1.Txns a2).Ops) x716).Arg] : List Int)).length) c1107 ((mat m715 ((idx ((idx a1.Txns a2).Ops) x716).Key)) ++ ([(idx ((idx a1.Txns a2).Ops) x716).Arg] : List Int))] [.blk b0z 75 [vS A710 l709.length c711, vS A713 l712.length c714], .row kAsk 51 A710 l709.length c711 l709, .row kSpot 53 A713 l712.length c714 l712, .blk b967 63 [vI ((idx ((idx a1.Txns a2).Ops) x716).Kind), vI ((idx ((idx a1.Txns a2).Ops) x716).Key), vI ((idx ((idx a1.Txns a2).Ops) x716).Arg), vB ((idx ((idx a1.Txns a2).Ops) x716).Got), vS A963 (((idx ((idx a1.Txns a2).Ops) x716).Vals).length) c964]] b36 (mhole m715 ((idx ((idx a1.Txns a2).Ops) x716).Key) [vS A1099 (mat m715 ((idx ((idx a1.Txns a2).Ops) x716).Key)).length c1100]) ((idx ((idx a1.Txns a2).Ops) x716).Key) (Sum.inl ((mat m715 ((idx ((idx a1.Txns a2).Ops) x716).Key)) ++ ([(idx ((idx a1.Txns a2).Ops) x716).Arg] : List Int))) (vS A1106 (((mat m715 ((idx ((idx a1.Txns a2).Ops) x716).Key)) ++ ([(idx ((idx a1.Txns a2).Ops) x716).Arg] : List Int)).length) c1107) rfl (by kernel_rfl) (key_int (by kernel_rfl)) (by kernel_rfl) (by kernel_rfl) (by kernel_rfl) rfl hI (by decide) rfl mk_row ?_)
            clear hI
            intro _ hI
            replace hI := hI.mapback 0 (mput m715 ((idx ((idx a1.Txns a2).Ops) x716).Key) ((mat m715 ((idx ((idx a1.Txns a2).Ops) x716).Key)) ++ ([(idx ((idx a1.Txns a2).Ops) x716).Arg] : List Int))) rfl mhole_put
            refine ⟨(hI.pk [1, 2, 3, 4]), ?_⟩
            refine hd ?_
            refine go_exit rfl ?_
            exact hJ945 (l709, l712, mput m715 ((idx ((idx a1.Txns a2).Ops) x716).Key) ((mat m715 ((idx ((idx a1.Txns a2).Ops) x716).Key)) ++ ([(idx ((idx a1.Txns a2).Ops) x716).Arg] : List Int))) _ _ ⟨_, A710, c711, A713, c714, at_, hI.pick [1, 2, 3, 0] (by decide) rfl⟩ H
        · refine ge hc1015 (go_skip (go_seq (r_in (bg 0 [.p, .l 0 4] (gA (hI.grp 4 rfl)) ?_))))
          replace H := bind_some H
          obtain ⟨y1112, hy1113, H⟩ := H
          refine oe 2 rfl ?_
          refine ec (enter52 _) (slices_Clone_int64zcalls A963 c964 ((idx ((idx a1.Txns a2).Ops) x716).Vals) (memOf _) _ (Inv.start _) (hI.rd hr965) hl966 _ hy1113) ?_
          rintro _ _ ⟨A1114, c1115, rfl, hI'⟩
          replace hI := hI.call0 hI'
          clear hI'
          refine ⟨_, rfl, ?_⟩
          refine bp 3 2 (ro ?_)
          refine go_seq_join (o := o1) (fun (l1129, b1132) f w => ∃ (j : Nat → Value) (A1130 : Option Addr) (c1131 : Nat), f = updL j [(0, vP b0z 0), (2, vI a2), (6, .map (some b36)), (7, vI x716), (8, vP b967 0), (9, vS A1130 l1129.length c1131), (10, vB b1132), (25, vS (some ⟨b961, q962, none⟩) (((idx a1.Txns a2).Ops).length) c48), (26, vI (((idx a1.Txns a2).Ops).length : Int)), (27, vI x716)] ∧ Inv M w [.blk b0z 75 [vS A710 l709.length c711, vS A713 l712.length c714], .row kAsk 51 A710 l709.length c711 l709, .row kSpot 53 A713 l712.length c714 l712, mapO (fun x : Int => vI x) (tSlice 2 (tInt .i64)) b36 m715, .blk b967 63 [vI ((idx ((idx a1.Txns a2).Ops) x716).Kind), vI ((idx ((idx a1.Txns a2).Ops) x716).Key), vI ((idx ((idx a1.Txns a2).Ops) x716).Arg), vB ((idx ((idx a1.Txns a2).Ops) x716).Got), vS A963 (((idx ((idx a1.Txns a2).Ops) x716).Vals).length) c964], .row (tInt .i64) 2 A1130 l1129.length c1131 l1129]) (fun (l1129, b1132) => local_found_look.j3 a1 a2 l709 l712 m715 x716 l1129 b1132) ?_ (fun hJ1133 => ?_)
          · clear H hI
            rintro ⟨l1129, b1132⟩ _ _ ⟨_, A1130, c1131, rfl, hI⟩ H
            refine go_seq (go_seq (rp 2 ?_))
            replace H := cond_some H
            rcases H with ⟨hc1140, H⟩ | ⟨hc1140, H⟩
            · refine gt hc1140 (go_seq (r_in (bg 0 [.p, .p, .p, .p, .l 0 1, .p, .p, .p] (gA (hI.grp 0 rfl)) (oe 8 rfl ?_))))
              refine e_partsS 43 53 1 _ _ _ #[vI a2, vI x716] [vI a2, vI x716] rfl rfl rfl rfl (by kernel_rfl) (by kernel_rfl) (by kernel_rfl) (by kernel_rfl) hI ?_
              clear hI
              intro b1146 _ hs1147 hI
              replace H := must_some H
              obtain ⟨g1148, H⟩ := H
              refine oe 9 rfl ?_
              refine e_append kSpot 43 0 53 _ _ _ _ A713 l712.length c714 l712 ([(⟨a2, x716⟩ : Spot)] : List Spot) b1146 0 1 1 [vI a2, vI x716] 2 [] [0, 1, 3, 4, 5, 6] [] [.blk b0z 75 [vS A710 l709.length c711, vS A713 l712.length c714], .row kAsk 51 A710 l709.length c711 l709, mapO (fun x : Int => vI x) (tSlice 2 (tInt .i64)) b36 m715, .blk b967 63 [vI ((idx ((idx a1.Txns a2).Ops) x716).Kind), vI ((idx ((idx a1.Txns a2).Ops) x716).Key), vI ((idx ((idx a1.Txns a2).Ops) x716).Arg), vB ((idx ((idx a1.Txns a2).Ops) x716).Got), vS A963 (((idx ((idx a1.Txns a2).Ops) x716).Vals).length) c964], .row (tInt .i64) 2 A1130 l1129.length c1131 l1129, .blk b1146 53 [vI a2, vI x716]] rfl (by kernel_rfl) (by kernel_rfl) rfl rfl rfl rfl rfl (by kernel_rfl) hI (by decide) rfl rfl rfl (hI.grp 6 rfl) g1148 (mks_cons (mk_flat (k := kSpot) (⟨a2, x716⟩ : Spot) [vI a2, vI x716] rfl) mks_nil) ?_
              clear hI
              intro A1149 c1150 _ hI
              replace hI := hI.pick (L' := [.row kSpot 53 A1149 ((l712 ++ ([(⟨a2, x716⟩ : Spot)] : List Spot)).length) c1150 (l712 ++ ([(⟨a2, x716⟩ : Spot)] : List Spot)), .blk b0z 75 [vS A710 l709.length c711, vS A713 l712.length c714], .row kAsk 51 A710 l709.length c711 l709, mapO (fun x : Int => vI x) (tSlice 2 (tInt .i64)) b36 m715, .blk b967 63 [vI ((idx ((idx a1.Txns a2).Ops) x716).Kind), vI ((idx ((idx a1.Txns a2).Ops) x716).Key), vI ((idx ((idx a1.Txns a2).Ops) x716).Arg), vB ((idx ((idx a1.Txns a2).Ops) x716).Got), vS A963 (((idx ((idx a1.Txns a2).Ops) x716).Vals).length) c964], .row (tInt .i64) 2 A1130 l1129.length c1131 l1129]) [0, 1, 2, 3, 4, 5] (by decide) rfl
              refine bp 10 2 (oe 12 rfl ?_)
              refine e_store 43 _ _ 1 b0z 75 [vS A710 l709.length c711, vS A713 l712.length c714] [vS A710 l709.length c711, vS A1149 ((l712 ++ ([(⟨a2, x716⟩ : Spot)] : List Spot)).length) c1150] 1 (vS A1149 ((l712 ++ ([(⟨a2, x716⟩ : Spot)] : List Spot)).length) c1150) rfl (by kernel_rfl) (by kernel_rfl) (by kernel_rfl) (by kernel_rfl) hI rfl (by kernel_rfl) (by kernel_rfl) ?_
              clear hI
              intro _ hI
              refine ro ?_
              refine go_exit rfl ?_
              exact hJ945 (l709, l712 ++ ([(⟨a2, x716⟩ : Spot)] : List Spot), m715) _ _ ⟨_, A710, c711, A1149, c1150, at_, hI.pick [1, 2, 0, 3] (by decide) rfl⟩ H
            · refine ge hc1140 (go_skip ?_)
              replace H := must_some H
              obtain ⟨g1153, H⟩ := H
              refine go_held (fun w => Inv M w [.row kSpot 53 A713 l712.length c714 l712, mapO (fun x : Int => vI x) (tSlice 2 (tInt .i64)) b36 m715, .blk b967 63 [vI ((idx ((idx a1.Txns a2).Ops) x716).Kind), vI ((idx ((idx a1.Txns a2).Ops) x716).Key), vI ((idx ((idx a1.Txns a2).Ops) x716).Arg), vB ((idx ((idx a1.Txns a2).Ops) x716).Got), vS A963 (((idx ((idx a1.Txns a2).Ops) x716).Vals).length) c964]]) (by kernel_rfl) ?_
              replace hI := hI.drew'
              refine hg (n := 6) [(0, .p), (1, .p), (2, .p), (3, .p), (5, .p), (6, .p), (7, .p), (8, .l 0 1), (9, .p), (10, .p)] (fun _ hS => (gA (hS.grp 2 rfl))) (hI.pk [2, 3, 4]) ?_
              refine held_each (n := 5) [4, 11] (by simp) (by kernel_rfl) ⟨⟨_, rfl, by kernel_rfl, ?_⟩, ⟨_, rfl, by kernel_rfl, ?_⟩, trivial⟩
              · refine (e_read (ops := #[]) [(b0z, 0, [vS A710 l709.length c711, vS A713 l712.length c714])] (.l 0 0) (vS A710 l709.length c711) [] ⟨(hI.grp 0 rfl), trivial⟩ trivial (by kernel_rfl) (by kernel_rfl) (by kernel_rfl) ⟨(hI.pk [2, 3, 4]), ?_⟩)
                refine ho (n := 4) 11 rfl (e_partsS 42 51 1 _ _ _ #[vI a2, vI x716, vI ((idx ((idx a1.Txns a2).Ops) x716).Key), vS A1130 l1129.length c1131] [vI a2, vI x716, vI ((idx ((idx a1.Txns a2).Ops) x716).Key), vS A1130 l1129.length c1131] rfl rfl rfl rfl (by kernel_rfl) (by kernel_rfl) (by kernel_rfl) (by kernel_rfl) hI ?_)
                clear hI
                intro b1160 _ hs1161 hI
                refine ⟨(hI.pk [2, 3, 4]), ?_⟩
                refine ho (n := 3) 12 rfl (e_append kAsk 42 0 51 _ _ _ _ A710 l709.length c711 l709 ([(⟨a2, x716, (idx ((idx a1.Txns a2).Ops) x716).Key, l1129⟩ : Ask)] : List Ask) b1160 0 1 1 [vI a2, vI x716, vI ((idx ((idx a1.Txns a2).Ops) x716).Key), vS A1130 l1129.length c1131] 1 [5] [0, 2, 3, 4, 6] [.row (tInt .i64) 2 A1130 l1129.length c1131 l1129] [.blk b0z 75 [vS A710 l709.length c711, vS A713 l712.length c714], .row kSpot 53 A713 l712.length c714 l712, mapO (fun x : Int => vI x) (tSlice 2 (tInt .i64)) b36 m715, .blk b967 63 [vI ((idx ((idx a1.Txns a2).Ops) x716).Kind), vI ((idx ((idx a1.Txns a2).Ops) x716).Key), vI ((idx ((idx a1.Txns a2).Ops) x716).Arg), vB ((idx ((idx a1.Txns a2).Ops) x716).Got), vS A963 (((idx ((idx a1.Txns a2).Ops) x716).Vals).length) c964], .blk b1160 51 [vI a2, vI x716, vI ((idx ((idx a1.Txns a2).Ops) x716).Key), vS A1130 l1129.length c1131]] rfl (by kernel_rfl) (by kernel_rfl) rfl rfl rfl rfl rfl (by kernel_rfl) hI (by decide) rfl rfl rfl (hI.grp 6 rfl) g1153 (mks_cons (mk_iso (g := fun g : Ask => (g.Txn, g.Place, g.Key, g.Base)) (x := (⟨a2, x716, (idx ((idx a1.Txns a2).Ops) x716).Key, l1129⟩ : Ask)) (mk_pair (mk_flat (k := (tInt .i64)) a2 [vI a2] rfl) (mk_pair (mk_flat (k := (tInt .i64)) x716 [vI x716] rfl) (mk_pair (mk_flat (k := (tInt .i64)) ((idx ((idx a1.Txns a2).Ops) x716).Key) [vI ((idx ((idx a1.Txns a2).Ops) x716).Key)] rfl) mk_row)))) mks_nil) ?_)
                clear hI
                intro A1164 c1165 _ hI
                replace hI := hI.pick (L' := [.row kAsk 51 A1164 ((l709 ++ ([(⟨a2, x716, (idx ((idx a1.Txns a2).Ops) x716).Key, l1129⟩ : Ask)] : List Ask)).length) c1165 (l709 ++ ([(⟨a2, x716, (idx ((idx a1.Txns a2).Ops) x716).Key, l1129⟩ : Ask)] : List Ask)), .blk b0z 75 [vS A710 l709.length c711, vS A713 l712.length c714], .row kSpot 53 A713 l712.length c714 l712, mapO (fun x : Int => vI x) (tSlice 2 (tInt .i64)) b36 m715, .blk b967 63 [vI ((idx ((idx a1.Txns a2).Ops) x716).Kind), vI ((idx ((idx a1.Txns a2).Ops) x716).Key), vI ((idx ((idx a1.Txns a2).Ops) x716).Arg), vB ((idx ((idx a1.Txns a2).Ops) x716).Got), vS A963 (((idx ((idx a1.Txns a2).Ops) x716).Vals).length) c964]]) [0, 1, 2, 3, 4] (by decide) rfl
                refine ⟨(hI.pk [2, 3, 4]), ?_⟩
                refine hg (n := 1) [(13, .p), (14, .p)] (fun _ hS => gO) (hI.pk [2, 3, 4]) ?_
                refine ho (n := 0) 15 rfl (e_store 42 _ _ 1 b0z 75 [vS A710 l709.length c711, vS A713 l712.length c714] [vS A1164 ((l709 ++ ([(⟨a2, x716, (idx ((idx a1.Txns a2).Ops) x716).Key, l1129⟩ : Ask)] : List Ask)).length) c1165, vS A713 l712.length c714] 0 (vS A1164 ((l709 ++ ([(⟨a2, x716, (idx ((idx a1.Txns a2).Ops) x716).Key, l1129⟩ : Ask)] : List Ask)).length) c1165) rfl (by kernel_rfl) (by kernel_rfl) (by kernel_rfl) (by kernel_rfl) hI rfl (by kernel_rfl) (by kernel_rfl) ?_)
                clear hI
                intro _ hI
                refine ⟨(hI.pk [2, 3, 4]), ?_⟩
                refine hd (go_inBlock ?_)
                exact hJ945 (l709 ++ ([(⟨a2, x716, (idx ((idx a1.Txns a2).Ops) x716).Key, l1129⟩ : Ask)] : List Ask), l712, m715) _ _ ⟨_, A1164, c1165, A713, c714, at_, hI.pick [1, 0, 2, 3] (by decide) rfl⟩ H
              · refine (e_partsS 42 51 1 _ _ _ #[vI a2, vI x716, vI ((idx ((idx a1.Txns a2).Ops) x716).Key), vS A1130 l1129.length c1131] [vI a2, vI x716, vI ((idx ((idx a1.Txns a2).Ops) x716).Key), vS A1130 l1129.length c1131] rfl rfl rfl rfl (by kernel_rfl) (by kernel_rfl) (by kernel_rfl) (by kernel_rfl) hI ?_)
                clear hI
                intro b1166 _ hs1167 hI
                refine ⟨(hI.pk [2, 3, 4]), ?_⟩
                refine ho (n := 4) 4 rfl (e_read (ops := #[]) [(b0z, 0, [vS A710 l709.length c711, vS A713 l712.length c714])] (.l 0 0) (vS A710 l709.length c711) [] ⟨(hI.grp 0 rfl), trivial⟩ trivial (by kernel_rfl) (by kernel_rfl) (by kernel_rfl) ⟨(hI.pk [2, 3, 4]), ?_⟩)
                refine ho (n := 3) 12 rfl (e_append kAsk 42 0 51 _ _ _ _ A710 l709.length c711 l709 ([(⟨a2, x716, (idx ((idx a1.Txns a2).Ops) x716).Key, l1129⟩ : Ask)] : List Ask) b1166 0 1 1 [vI a2, vI x716, vI ((idx ((idx a1.Txns a2).Ops) x716).Key), vS A1130 l1129.length c1131] 1 [5] [0, 2, 3, 4, 6] [.row (tInt .i64) 2 A1130 l1129.length c1131 l1129] [.blk b0z 75 [vS A710 l709.length c711, vS A713 l712.length c714], .row kSpot 53 A713 l712.length c714 l712, mapO (fun x : Int => vI x) (tSlice 2 (tInt .i64)) b36 m715, .blk b967 63 [vI ((idx ((idx a1.Txns a2).Ops) x716).Kind), vI ((idx ((idx a1.Txns a2).Ops) x716).Key), vI ((idx ((idx a1.Txns a2).Ops) x716).Arg), vB ((idx ((idx a1.Txns a2).Ops) x716).Got), vS A963 (((idx ((idx a1.Txns a2).Ops) x716).Vals).length) c964], .blk b1166 51 [vI a2, vI x716, vI ((idx ((idx a1.Txns a2).Ops) x716).Key), vS A1130 l1129.length c1131]] rfl (by kernel_rfl) (by kernel_rfl) rfl rfl rfl rfl rfl (by kernel_rfl) hI (by decide) rfl rfl rfl (hI.grp 6 rfl) g1153 (mks_cons (mk_iso (g := fun g : Ask => (g.Txn, g.Place, g.Key, g.Base)) (x := (⟨a2, x716, (idx ((idx a1.Txns a2).Ops) x716).Key, l1129⟩ : Ask)) (mk_pair (mk_flat (k := (tInt .i64)) a2 [vI a2] rfl) (mk_pair (mk_flat (k := (tInt .i64)) x716 [vI x716] rfl) (mk_pair (mk_flat (k := (tInt .i64)) ((idx ((idx a1.Txns a2).Ops) x716).Key) [vI ((idx ((idx a1.Txns a2).Ops) x716).Key)] rfl) mk_row)))) mks_nil) ?_)
                clear hI
                intro A1170 c1171 _ hI
                replace hI := hI.pick (L' := [.row kAsk 51 A1170 ((l709 ++ ([(⟨a2, x716, (idx ((idx a1.Txns a2).Ops) x716).Key, l1129⟩ : Ask)] : List Ask)).length) c1171 (l709 ++ ([(⟨a2, x716, (idx ((idx a1.Txns a2).Ops) x716).Key, l1129⟩ : Ask)] : List Ask)), .blk b0z 75 [vS A710 l709.length c711, vS A713 l712.length c714], .row kSpot 53 A713 l712.length c714 l712, mapO (fun x : Int => vI x) (tSlice 2 (tInt .i64)) b36 m715, .blk b967 63 [vI ((idx ((idx a1.Txns a2).Ops) x716).Kind), vI ((idx ((idx a1.Txns a2).Ops) x716).Key), vI ((idx ((idx a1.Txns a2).Ops) x716).Arg), vB ((idx ((idx a1.Txns a2).Ops) x716).Got), vS A963 (((idx ((idx a1.Txns a2).Ops) x716).Vals).length) c964]]) [0, 1, 2, 3, 4] (by decide) rfl
                refine ⟨(hI.pk [2, 3, 4]), ?_⟩
                refine hg (n := 1) [(13, .p), (14, .p)] (fun _ hS => gO) (hI.pk [2, 3, 4]) ?_
                refine ho (n := 0) 15 rfl (e_store 42 _ _ 1 b0z 75 [vS A710 l709.length c711, vS A713 l712.length c714] [vS A1170 ((l709 ++ ([(⟨a2, x716, (idx ((idx a1.Txns a2).Ops) x716).Key, l1129⟩ : Ask)] : List Ask)).length) c1171, vS A713 l712.length c714] 0 (vS A1170 ((l709 ++ ([(⟨a2, x716, (idx ((idx a1.Txns a2).Ops) x716).Key, l1129⟩ : Ask)] : List Ask)).length) c1171) rfl (by kernel_rfl) (by kernel_rfl) (by kernel_rfl) (by kernel_rfl) hI rfl (by kernel_rfl) (by kernel_rfl) ?_)
                clear hI
                intro _ hI
                refine ⟨(hI.pk [2, 3, 4]), ?_⟩
                refine hd (go_inBlock ?_)
                exact hJ945 (l709 ++ ([(⟨a2, x716, (idx ((idx a1.Txns a2).Ops) x716).Key, l1129⟩ : Ask)] : List Ask), l712, m715) _ _ ⟨_, A1170, c1171, A713, c714, at_, hI.pick [1, 0, 2, 3] (by decide) rfl⟩ H
          · refine go_seq (r_in (bg 0 [.p, .p, .l 0 1] (gA (hI.grp 4 rfl)) (oe 3 rfl ?_)))
            refine e_lookupO (ek := (fun x : Int => vI x)) (kt := (tInt .i64)) (e := 2) 100 3 22 _ _ false 3 b36 m715 ((idx ((idx a1.Txns a2).Ops) x716).Key) rfl (by kernel_rfl) (key_int (by kernel_rfl)) (fun _ => by kernel_rfl) (by kernel_rfl) (by kernel_rfl) hI rfl ?_
            intro A1177 c1178 hr1179 hl1180 hat1181
            replace hI := hI.pin 3 rfl hat1181
            refine bp 4 1 (ro (go_seq (rp 3 ?_)))
            replace H := cond_some H
            rcases H with ⟨hc1182, H⟩ | ⟨hc1182, H⟩
            · refine gt hc1182 (go_seq (r_in (bg 0 [.p, .l 0 0, .p, .p, .l 0 4, .p] (gA (hI.grp 4 rfl)) ?_)))
              replace H := bind_some H
              obtain ⟨y1187, hy1188, H⟩ := H
              refine oe 6 rfl ?_
              refine ec (enter16 _) (state_Before_calls (w64 (((idx ((idx a1.Txns a2).Ops) x716).Kind) - 4)) A963 c964 ((idx ((idx a1.Txns a2).Ops) x716).Vals) A1177 c1178 (mat m715 ((idx ((idx a1.Txns a2).Ops) x716).Key)) (memOf _) _ (Inv.start _) (hI.rd hr965) hl966 (hI.pinrd 3 rfl) (hI.pinle 3 rfl) _ hy1188) ?_
              rintro _ _ ⟨A1189, c1190, rfl, hI'⟩
              replace hI := hI.call0 hI'
              clear hI'
              refine ⟨_, rfl, ?_⟩
              refine bp 7 5 (ro ?_)
              refine go_seq_join (o := o1) (fun b1192 f w => ∃ (j : Nat → Value), f = updL j [(0, vP b0z 0), (2, vI a2), (6, .map (some b36)), (7, vI x716), (8, vP b967 0), (9, vS A1189 y1187.1.length c1190), (10, vB y1187.2), (25, vS (some ⟨b961, q962, none⟩) (((idx a1.Txns a2).Ops).length) c48), (26, vI (((idx a1.Txns a2).Ops).length : Int)), (27, vI x716), (71, vB b1192)] ∧ Inv M w [.blk b0z 75 [vS A710 l709.length c711, vS A713 l712.length c714], .row kAsk 51 A710 l709.length c711 l709, .row kSpot 53 A713 l712.length c714 l712, mapPin (fun x : Int => vI x) (tInt .i64) 2 b36 m715 ((idx ((idx a1.Txns a2).Ops) x716).Key) A1177 c1178, .blk b967 63 [vI ((idx ((idx a1.Txns a2).Ops) x716).Kind), vI ((idx ((idx a1.Txns a2).Ops) x716).Key), vI ((idx ((idx a1.Txns a2).Ops) x716).Arg), vB ((idx ((idx a1.Txns a2).Ops) x716).Got), vS A963 (((idx ((idx a1.Txns a2).Ops) x716).Vals).length) c964], .row (tInt .i64) 2 A1189 y1187.1.length c1190 y1187.1]) (fun b1192 => local_found_look.j4 a1 a2 l709 l712 m715 x716 y1187 b1192) ?_ (fun hJ1193 => ?_)
              · clear H hI
                rintro b1192 _ _ ⟨_, rfl, hI⟩ H
                replace H := cond_some H
                rcases H with ⟨hc1194, H⟩ | ⟨hc1194, H⟩
                · refine gt hc1194 ?_
                  refine go_exit rfl ?_
                  replace hI := hI.unpin 3 rfl
                  exact hJ945 (l709, l712, m715) _ _ ⟨_, A710, c711, A713, c714, at_, hI.pick [0, 1, 2, 3] (by decide) rfl⟩ H
                · refine ge hc1194 (go_skip ?_)
                  replace hI := hI.unpin 3 rfl
                  exact hJ1133 (y1187.1, y1187.2) _ _ ⟨_, A1189, c1190, at_, hI⟩ H
              · refine r_in ?_
                replace H := cond_some H
                rcases H with ⟨hc1195, H⟩ | ⟨hc1195, H⟩
                · refine bx 0 [.p, .c true, .p, .l 0 0, .p, .p] (gA (hI.grp 4 rfl)) _ (bZ (bndEq hc1195)) (ro ?_)
                  exact hJ1193 ((idx ((idx a1.Txns a2).Ops) x716).Kind == 5) _ _ ⟨_, at_, hI.pick [0, 1, 2, 3, 4, 6] (by decide) rfl⟩ H
                · refine bx 0 [.p, .c false, .p, .p, .p, .p] gO _ (bZ (bndEq hc1195)) (ro ?_)
                  exact hJ1193 false _ _ ⟨_, at_, hI.pick [0, 1, 2, 3, 4, 6] (by decide) rfl⟩ H
            · refine ge hc1182 (go_skip ?_)
              replace hI := hI.unpin 3 rfl
              exact hJ1133 (y1112, true) _ _ ⟨_, A1114, c1115, at_, hI⟩ H
    · refine ge hc718 ?_
      refine go_exit rfl ?_
      replace H := out_some H
      obtain ⟨_, H, he1⟩ := H
      have he := (hout1 _ he1).symm
      subst he
      replace H := Option.some.inj H
      subst H
      exact go_finish (.tuple #[]) Try.func42 (by kernel_rfl) ⟨A710, c711, A713, c714, rfl, hI.pick [0, 1, 2] (by decide) rfl⟩

/-! ### local_Look -/
theorem enter28 (a : Array Value) : Sem.pureRun Try.prog (callFunc 28 a) = some (.enter 28 a) := by kernel_rfl
theorem local_Look_calls (a0 : History) (A0z0 : Option Addr) (c0z0 : Nat) (A0z1 : Option Addr) (c0z1 : Nat) (a1 : Int) (M : Mem) (w : World) (hI : Inv M w []) (hr0z0 : rdS tStr M.blk A0z0 a0.Keys) (hl0z0 : a0.Keys.length ≤ c0z0) (hr0z1 : rdS kTxn M.blk A0z1 a0.Txns) (hl0z1 : a0.Txns.length ≤ c0z1) (r : List Ask × List Spot × Int) (H : local_Look a0 a1 = some r) :
    Calls Try.prog 28 #[.agg #[vS A0z0 a0.Keys.length c0z0, vS A0z1 a0.Txns.length c0z1], vI a1] w fun e w' => ∃ (A45 : Option Addr), ∃ (c46 : Nat), ∃ (A47 : Option Addr), ∃ (c48 : Nat), e = .returned (.tuple #[vS A45 r.1.length c46, vS A47 r.2.1.length c48, vI r.2.2]) ∧ Inv M w' [.row kAsk 51 A45 r.1.length c46 r.1, .row kSpot 53 A47 r.2.1.length c48 r.2.1] := by
  refine cg Try.func28 ?_
  intro cs
  unfold local_Look at H
  refine go_seq (r_in (oe 0 rfl ?_))
  refine e_box 40 _ (.agg #[vS A0z0 a0.Keys.length c0z0, vS A0z1 a0.Txns.length c0z1]) [vS A0z0 a0.Keys.length c0z0, vS A0z1 a0.Txns.length c0z1] rfl (by kernel_rfl) rfl hI ?_
  clear hI
  intro b2 _ hI
  refine bp 1 3 (ro (go_seq (go_seq (r_in (bg 0 [.l 0 0] (gA (hI.grp 0 rfl)) ?_)))))
  replace H := bind_some H
  obtain ⟨y11, hy12, H⟩ := H
  refine oe 1 rfl ?_
  refine ec (enter41 _) (index_Check_calls a0 A0z0 c0z0 A0z1 c0z1 (memOf _) _ (Inv.start _) (hI.rd hr0z0) hl0z0 (hI.rd hr0z1) hl0z1 _ hy12) ?_
  rintro _ _ ⟨rfl, hI'⟩
  replace hI := hI.call0 hI'
  clear hI'
  refine ⟨_, rfl, ?_⟩
  refine bp 2 1 (ro ?_)
  refine go_seq_join (o := r) (fun b15 f w => ∃ (j : Nat → Value), f = updL j [(1, vI a1), (2, vP b2 0), (23, vB b15)] ∧ Inv M w [.blk b2 40 [vS A0z0 a0.Keys.length c0z0, vS A0z1 a0.Txns.length c0z1]]) (fun b15 => local_Look.j1 a0 a1 b15) ?_ (fun hJ16 => ?_)
  · clear H hI
    rintro b15 _ _ ⟨_, rfl, hI⟩ H
    replace H := cond_some H
    rcases H with ⟨hc17, H⟩ | ⟨hc17, H⟩
    · refine gt hc17 (go_seq (rp 3 ?_))
      replace H := Option.some.inj H
      subst H
      exact gr Try.func28 ⟨none, 0, none, 0, rfl, ((hI.nilrow kAsk 51).nilrow kSpot 53).pick [1, 2] (by decide) rfl⟩
    · refine ge hc17 (go_skip (go_seq (r_in (oe 0 rfl ?_))))
      refine e_alloc 75 (.agg #[vS none 0 0, vS none 0 0]) [vS none 0 0, vS none 0 0] rfl (by kernel_rfl) rfl hI ?_
      clear hI
      intro b19 _ hI
      refine ro (go_seq (r_in (bg 0 [.l 0 0, .p] (gA (hI.grp 0 rfl)) ?_)))
      replace H := bind_some H
      obtain ⟨y36, hy37, H⟩ := H
      replace hI := hI.nilrow kAsk 51
      replace hI := hI.nilrow kSpot 53
      obtain ⟨M31, hJ32, hs33, hro34, hback35⟩ := hI.call (R := [.blk b19 75 [vS none (([] : List Ask).length) 0, vS none (([] : List Spot).length) 0], .row kAsk 51 none (([] : List Ask).length) 0 ([] : List Ask), .row kSpot 53 none (([] : List Spot).length) 0 ([] : List Spot)]) (L0 := [.blk b2 40 [vS A0z0 a0.Keys.length c0z0, vS A0z1 a0.Txns.length c0z1]]) [1, 2, 3] [0] (by decide) rfl
      refine oe 2 rfl ?_
      refine ec (enter42 _) (local_found_look_calls b19 (⟨([] : List Ask), ([] : List Spot)⟩ : LocalFound) none 0 none 0 a0 A0z0 c0z0 A0z1 c0z1 a1 M31 _ hJ32 (rdS.mono hr0z0 hs33) hl0z0 (rdS.mono hr0z1 hs33) hl0z1 _ hy37) ?_
      rintro _ _ ⟨A38, c39, A40, c41, rfl, hI'⟩
      replace hI := hback35 _ _ hI'
      clear hI'
      refine ⟨_, rfl, ?_⟩
      refine ro (go_seq ?_)
      refine dg [.p, .l 0 0, .p, .l 0 1, .p, .p, .p] (gA (hI.grp 0 rfl)) hI ?_
      clear hI
      intro _ hI
      replace H := Option.some.inj H
      subst H
      exact gr Try.func28 ⟨A38, c39, A40, c41, rfl, hI.pick [1, 2] (by decide) rfl⟩
  · refine r_in ?_
    replace H := cond_some H
    rcases H with ⟨hc42, H⟩ | ⟨hc42, H⟩
    · refine bx 0 [.p, .p, .c true, .p, .p, .p, .p, .p, .p, .p, .p, .p, .p] gO _ (bZ (bndEq hc42)) (ro ?_)
      exact hJ16 true _ _ ⟨_, at_, hI⟩ H
    · replace H := cond_some H
      rcases H with ⟨hc43, H⟩ | ⟨hc43, H⟩
      · refine bx 0 [.p, .p, .c false, .p, .p, .p, .c true, .p, .p, .p, .p, .p, .p] gO _ (bC (bndEq hc42) (bZ (bndEq hc43))) (ro ?_)
        exact hJ16 true _ _ ⟨_, at_, hI⟩ H
      · refine bx 0 [.p, .p, .c false, .p, .p, .p, .c false, .p, .p, .l 0 1, .p, .p, .p] (gA (hI.grp 0 rfl)) _ (bC (bndEq hc42) (bZ (bndEq hc43))) (ro ?_)
        exact hJ16 (decide (a1 ≥ (a0.Txns.length : Int))) _ _ ⟨_, at_, hI⟩ H

/-! ### assizelaw09zalive -/
theorem enter26 (a : Array Value) : Sem.pureRun Try.prog (callFunc 26 a) = some (.enter 26 a) := by kernel_rfl
theorem assizelaw09zalive_calls  (M : Mem) (w : World) (hI : Inv M w []) (r : Bool) (H : assizelaw09zalive = some r) :
    Calls Try.prog 26 #[] w fun e w' => e = .returned (vB r) ∧ Inv M w' [] := by
  refine cg Try.func26 ?_
  intro cs
  unfold assizelaw09zalive at H
  refine go_seq (rp 1 (go_seq (r_in (oe 0 rfl ?_))))
  refine e_partsS 37 9 1 _ _ _ #[.string (⟨#[108]⟩ : ByteArray)] [.string (⟨#[108]⟩ : ByteArray)] rfl rfl rfl rfl (by kernel_rfl) (by kernel_rfl) (by kernel_rfl) (by kernel_rfl) hI ?_
  clear hI
  intro b12 _ hs13 hI
  replace hI := hI.asrow (k := tStr) (xs := ([(⟨#[108]⟩ : ByteArray)] : List ByteArray)) (cs := [.string (⟨#[108]⟩ : ByteArray)]) (R := []) (L' := []) 1 0 [] [] (by decide) rfl (mks_cons (mk_flat (k := tStr) (⟨#[108]⟩ : ByteArray) [.string (⟨#[108]⟩ : ByteArray)] rfl) mks_nil) rfl rfl (by kernel_rfl)
  refine bp 1 1 (oe 2 rfl ?_)
  refine e_partsS 22 2 2 _ _ _ #[vI 3, vI 5] [vI 3, vI 5] rfl rfl rfl rfl (by kernel_rfl) (by kernel_rfl) (by kernel_rfl) (by kernel_rfl) hI ?_
  clear hI
  intro b14 _ hs15 hI
  replace hI := hI.asrow (k := (tInt .i64)) (xs := ([3, 5] : List Int)) (cs := [vI 3, vI 5]) (R := []) (L' := [.row tStr 9 (some ⟨b12, 0, none⟩) 1 1 ([(⟨#[108]⟩ : ByteArray)] : List ByteArray)]) 2 1 [] [0] (by decide) rfl (mks_cons (mk_flat (k := (tInt .i64)) 3 [vI 3] rfl) (mks_cons (mk_flat (k := (tInt .i64)) 5 [vI 5] rfl) mks_nil)) rfl rfl (by kernel_rfl)
  refine bp 3 1 (oe 4 rfl ?_)
  refine e_partsS 22 2 2 _ _ _ #[vI 5, vI 3] [vI 5, vI 3] rfl rfl rfl rfl (by kernel_rfl) (by kernel_rfl) (by kernel_rfl) (by kernel_rfl) hI ?_
  clear hI
  intro b16 _ hs17 hI
  replace hI := hI.asrow (k := (tInt .i64)) (xs := ([5, 3] : List Int)) (cs := [vI 5, vI 3]) (R := []) (L' := [.row (tInt .i64) 2 (some ⟨b14, 0, none⟩) 2 2 ([3, 5] : List Int), .row tStr 9 (some ⟨b12, 0, none⟩) 1 1 ([(⟨#[108]⟩ : ByteArray)] : List ByteArray)]) 2 2 [] [0, 1] (by decide) rfl (mks_cons (mk_flat (k := (tInt .i64)) 5 [vI 5] rfl) (mks_cons (mk_flat (k := (tInt .i64)) 3 [vI 3] rfl) mks_nil)) rfl rfl (by kernel_rfl)
  refine bp 5 1 (oe 6 rfl ?_)
  refine e_partsS 59 63 3 _ _ _ #[vI 2, vI 0, vI 5, vB false, vS none 0 0, vI 6, vI 0, vI 0, vB true, vS (some ⟨b14, 0, none⟩) 2 2, vI 6, vI 0, vI 0, vB true, vS (some ⟨b16, 0, none⟩) 2 2] [vI 2, vI 0, vI 5, vB false, vS none 0 0, vI 6, vI 0, vI 0, vB true, vS (some ⟨b14, 0, none⟩) 2 2, vI 6, vI 0, vI 0, vB true, vS (some ⟨b16, 0, none⟩) 2 2] rfl rfl rfl rfl (by kernel_rfl) (by kernel_rfl) (by kernel_rfl) (by kernel_rfl) hI ?_
  clear hI
  intro b18 _ hs19 hI
  replace hI := hI.asrow (k := kOp) (xs := ([(⟨2, 0, 5, false, ([] : List Int)⟩ : Op), (⟨6, 0, 0, true, ([3, 5] : List Int)⟩ : Op), (⟨6, 0, 0, true, ([5, 3] : List Int)⟩ : Op)] : List Op)) (cs := [vI 2, vI 0, vI 5, vB false, vS none 0 0, vI 6, vI 0, vI 0, vB true, vS (some ⟨b14, 0, none⟩) 2 2, vI 6, vI 0, vI 0, vB true, vS (some ⟨b16, 0, none⟩) 2 2]) (R := [.row (tInt .i64) 2 (some ⟨b14, 0, none⟩) 2 2 ([3, 5] : List Int), .row (tInt .i64) 2 (some ⟨b16, 0, none⟩) 2 2 ([5, 3] : List Int)]) (L' := [.row tStr 9 (some ⟨b12, 0, none⟩) 1 1 ([(⟨#[108]⟩ : ByteArray)] : List ByteArray)]) 3 3 [1, 0] [2] (by decide) rfl (mks_cons (mk_iso (g := fun g : Op => (g.Kind, g.Key, g.Arg, g.Got, g.Vals)) (x := (⟨2, 0, 5, false, ([] : List Int)⟩ : Op)) (mk_pair (mk_flat (k := (tInt .i64)) 2 [vI 2] rfl) (mk_pair (mk_flat (k := (tInt .i64)) 0 [vI 0] rfl) (mk_pair (mk_flat (k := (tInt .i64)) 5 [vI 5] rfl) (mk_pair (mk_flat (k := tBool) false [vB false] rfl) mk_nil))))) (mks_cons (mk_iso (g := fun g : Op => (g.Kind, g.Key, g.Arg, g.Got, g.Vals)) (x := (⟨6, 0, 0, true, ([3, 5] : List Int)⟩ : Op)) (mk_pair (mk_flat (k := (tInt .i64)) 6 [vI 6] rfl) (mk_pair (mk_flat (k := (tInt .i64)) 0 [vI 0] rfl) (mk_pair (mk_flat (k := (tInt .i64)) 0 [vI 0] rfl) (mk_pair (mk_flat (k := tBool) true [vB true] rfl) mk_row))))) (mks_cons (mk_iso (g := fun g : Op => (g.Kind, g.Key, g.Arg, g.Got, g.Vals)) (x := (⟨6, 0, 0, true, ([5, 3] : List Int)⟩ : Op)) (mk_pair (mk_flat (k := (tInt .i64)) 6 [vI 6] rfl) (mk_pair (mk_flat (k := (tInt .i64)) 0 [vI 0] rfl) (mk_pair (mk_flat (k := (tInt .i64)) 0 [vI 0] rfl) (mk_pair (mk_flat (k := tBool) true [vB true] rfl) mk_row))))) mks_nil))) rfl rfl (by kernel_rfl)
  refine bp 7 1 (oe 8 rfl ?_)
  refine e_partsS 38 61 1 _ _ _ #[vI 0, vI 1, vI 0, vI 1, vS (some ⟨b18, 0, none⟩) 3 3] [vI 0, vI 1, vI 0, vI 1, vS (some ⟨b18, 0, none⟩) 3 3] rfl rfl rfl rfl (by kernel_rfl) (by kernel_rfl) (by kernel_rfl) (by kernel_rfl) hI ?_
  clear hI
  intro b20 _ hs21 hI
  replace hI := hI.asrow (k := kTxn) (xs := ([(⟨0, 1, 0, 1, ([(⟨2, 0, 5, false, ([] : List Int)⟩ : Op), (⟨6, 0, 0, true, ([3, 5] : List Int)⟩ : Op), (⟨6, 0, 0, true, ([5, 3] : List Int)⟩ : Op)] : List Op)⟩ : Txn)] : List Txn)) (cs := [vI 0, vI 1, vI 0, vI 1, vS (some ⟨b18, 0, none⟩) 3 3]) (R := [.row kOp 63 (some ⟨b18, 0, none⟩) 3 3 ([(⟨2, 0, 5, false, ([] : List Int)⟩ : Op), (⟨6, 0, 0, true, ([3, 5] : List Int)⟩ : Op), (⟨6, 0, 0, true, ([5, 3] : List Int)⟩ : Op)] : List Op)]) (L' := [.row tStr 9 (some ⟨b12, 0, none⟩) 1 1 ([(⟨#[108]⟩ : ByteArray)] : List ByteArray)]) 1 2 [0] [1] (by decide) rfl (mks_cons (mk_iso (g := fun g : Txn => (g.Proc, g.Status, g.From, g.To, g.Ops)) (x := (⟨0, 1, 0, 1, ([(⟨2, 0, 5, false, ([] : List Int)⟩ : Op), (⟨6, 0, 0, true, ([3, 5] : List Int)⟩ : Op), (⟨6, 0, 0, true, ([5, 3] : List Int)⟩ : Op)] : List Op)⟩ : Txn)) (mk_pair (mk_flat (k := (tInt .i64)) 0 [vI 0] rfl) (mk_pair (mk_flat (k := (tInt .i64)) 1 [vI 1] rfl) (mk_pair (mk_flat (k := (tInt .i64)) 0 [vI 0] rfl) (mk_pair (mk_flat (k := (tInt .i64)) 1 [vI 1] rfl) mk_row))))) mks_nil) rfl rfl (by kernel_rfl)
  refine bp 9 1 (oe 10 rfl ?_)
  refine e_alloc 40 (.agg #[vS none 0 0, vS none 0 0]) [vS none 0 0, vS none 0 0] rfl (by kernel_rfl) rfl hI ?_
  clear hI
  intro b22 _ hI
  refine oe 11 rfl ?_
  refine e_store 40 _ _ 2 b22 40 [vS none 0 0, vS none 0 0] [vS (some ⟨b12, 0, none⟩) 1 1, vS (some ⟨b20, 0, none⟩) 1 1] 0 (.agg #[vS (some ⟨b12, 0, none⟩) 1 1, vS (some ⟨b20, 0, none⟩) 1 1]) rfl (by kernel_rfl) (by kernel_rfl) (by kernel_rfl) (by kernel_rfl) hI rfl (by kernel_rfl) (by kernel_rfl) ?_
  clear hI
  intro _ hI
  refine ro (go_seq (r_in (bg 0 [.l 0 0] (gA (hI.grp 2 rfl)) ?_)))
  replace H := bind_some H
  obtain ⟨y29, hy30, H⟩ := H
  refine o_is 5 (vS (some ⟨b12, 0, none⟩) 1 1) (vS (some ⟨b12, 0, none⟩) (([(⟨#[108]⟩ : ByteArray)] : List ByteArray).length) 1) (by kernel_rfl) (by first | rfl | simp only [List.length_set, List.length_replicate, List.length_nil]) ?_
  refine o_is 7 (vS (some ⟨b14, 0, none⟩) 2 2) (vS (some ⟨b14, 0, none⟩) (([3, 5] : List Int).length) 2) (by kernel_rfl) (by first | rfl | simp only [List.length_set, List.length_replicate, List.length_nil]) ?_
  refine o_is 8 (.agg #[vI 6, vI 0, vI 0, vB true, vS (some ⟨b14, 0, none⟩) 2 2]) (.agg #[vI 6, vI 0, vI 0, vB true, vS (some ⟨b14, 0, none⟩) (([3, 5] : List Int).length) 2]) (by kernel_rfl) (by first | rfl | simp only [List.length_set, List.length_replicate, List.length_nil]) ?_
  refine o_is 9 (vS (some ⟨b16, 0, none⟩) 2 2) (vS (some ⟨b16, 0, none⟩) (([5, 3] : List Int).length) 2) (by kernel_rfl) (by first | rfl | simp only [List.length_set, List.length_replicate, List.length_nil]) ?_
  refine o_is 10 (.agg #[vI 6, vI 0, vI 0, vB true, vS (some ⟨b16, 0, none⟩) 2 2]) (.agg #[vI 6, vI 0, vI 0, vB true, vS (some ⟨b16, 0, none⟩) (([5, 3] : List Int).length) 2]) (by kernel_rfl) (by first | rfl | simp only [List.length_set, List.length_replicate, List.length_nil]) ?_
  refine o_is 11 (vS (some ⟨b18, 0, none⟩) 3 3) (vS (some ⟨b18, 0, none⟩) (([(⟨2, 0, 5, false, ([] : List Int)⟩ : Op), (⟨6, 0, 0, true, ([3, 5] : List Int)⟩ : Op), (⟨6, 0, 0, true, ([5, 3] : List Int)⟩ : Op)] : List Op).length) 3) (by kernel_rfl) (by first | rfl | simp only [List.length_set, List.length_replicate, List.length_nil]) ?_
  refine o_is 12 (.agg #[vI 0, vI 1, vI 0, vI 1, vS (some ⟨b18, 0, none⟩) 3 3]) (.agg #[vI 0, vI 1, vI 0, vI 1, vS (some ⟨b18, 0, none⟩) (([(⟨2, 0, 5, false, ([] : List Int)⟩ : Op), (⟨6, 0, 0, true, ([3, 5] : List Int)⟩ : Op), (⟨6, 0, 0, true, ([5, 3] : List Int)⟩ : Op)] : List Op).length) 3]) (by kernel_rfl) (by first | rfl | simp only [List.length_set, List.length_replicate, List.length_nil]) ?_
  refine o_is 13 (vS (some ⟨b20, 0, none⟩) 1 1) (vS (some ⟨b20, 0, none⟩) (([(⟨0, 1, 0, 1, ([(⟨2, 0, 5, false, ([] : List Int)⟩ : Op), (⟨6, 0, 0, true, ([3, 5] : List Int)⟩ : Op), (⟨6, 0, 0, true, ([5, 3] : List Int)⟩ : Op)] : List Op)⟩ : Txn)] : List Txn).length) 1) (by kernel_rfl) (by first | rfl | simp only [List.length_set, List.length_replicate, List.length_nil]) ?_
  refine o_is 14 (.agg #[vS (some ⟨b12, 0, none⟩) 1 1, vS (some ⟨b20, 0, none⟩) 1 1]) (.agg #[vS (some ⟨b12, 0, none⟩) (([(⟨#[108]⟩ : ByteArray)] : List ByteArray).length) 1, vS (some ⟨b20, 0, none⟩) (([(⟨0, 1, 0, 1, ([(⟨2, 0, 5, false, ([] : List Int)⟩ : Op), (⟨6, 0, 0, true, ([3, 5] : List Int)⟩ : Op), (⟨6, 0, 0, true, ([5, 3] : List Int)⟩ : Op)] : List Op)⟩ : Txn)] : List Txn).length) 1]) (by kernel_rfl) (by first | rfl | simp only [List.length_set, List.length_replicate, List.length_nil]) ?_
  refine o_is 16 (.agg #[vS (some ⟨b12, 0, none⟩) 1 1, vS (some ⟨b20, 0, none⟩) 1 1]) (.agg #[vS (some ⟨b12, 0, none⟩) (([(⟨#[108]⟩ : ByteArray)] : List ByteArray).length) 1, vS (some ⟨b20, 0, none⟩) (([(⟨0, 1, 0, 1, ([(⟨2, 0, 5, false, ([] : List Int)⟩ : Op), (⟨6, 0, 0, true, ([3, 5] : List Int)⟩ : Op), (⟨6, 0, 0, true, ([5, 3] : List Int)⟩ : Op)] : List Op)⟩ : Txn)] : List Txn).length) 1]) (by kernel_rfl) (by first | rfl | simp only [List.length_set, List.length_replicate, List.length_nil]) ?_
  refine o_is 16 (.agg #[vS (some ⟨b12, 0, none⟩) 1 1, vS (some ⟨b20, 0, none⟩) 1 1]) (.agg #[vS (some ⟨b12, 0, none⟩) (([(⟨#[108]⟩ : ByteArray)] : List ByteArray).length) 1, vS (some ⟨b20, 0, none⟩) (([(⟨0, 1, 0, 1, ([(⟨2, 0, 5, false, ([] : List Int)⟩ : Op), (⟨6, 0, 0, true, ([3, 5] : List Int)⟩ : Op), (⟨6, 0, 0, true, ([5, 3] : List Int)⟩ : Op)] : List Op)⟩ : Txn)] : List Txn).length) 1]) (by kernel_rfl) (by first | rfl | simp only [List.length_set, List.length_replicate, List.length_nil]) ?_
  replace hI := hI.renum 0 rfl
  replace hI := hI.renum 1 rfl
  replace hI := hI.recell 2 [vS (some ⟨b12, 0, none⟩) (([(⟨#[108]⟩ : ByteArray)] : List ByteArray).length) 1, vS (some ⟨b20, 0, none⟩) (([(⟨0, 1, 0, 1, ([(⟨2, 0, 5, false, ([] : List Int)⟩ : Op), (⟨6, 0, 0, true, ([3, 5] : List Int)⟩ : Op), (⟨6, 0, 0, true, ([5, 3] : List Int)⟩ : Op)] : List Op)⟩ : Txn)] : List Txn).length) 1] (by first | rfl | simp only [List.length_set, List.length_replicate, List.length_nil]) rfl
  refine oe 1 rfl ?_
  refine ec (enter28 _) (local_Look_calls (⟨([(⟨#[108]⟩ : ByteArray)] : List ByteArray), ([(⟨0, 1, 0, 1, ([(⟨2, 0, 5, false, ([] : List Int)⟩ : Op), (⟨6, 0, 0, true, ([3, 5] : List Int)⟩ : Op), (⟨6, 0, 0, true, ([5, 3] : List Int)⟩ : Op)] : List Op)⟩ : Txn)] : List Txn)⟩ : History) (some ⟨b12, 0, none⟩) 1 (some ⟨b20, 0, none⟩) 1 0 (memOf _) _ (Inv.start _) (hI.row 1 rfl) (hI.rowle 1 rfl) (hI.row 0 rfl) (hI.rowle 0 rfl) _ hy30) ?_
  rintro _ _ ⟨A31, c32, A33, c34, rfl, hI'⟩
  replace hI := hI.call0 hI'
  clear hI'
  refine ⟨_, rfl, ?_⟩
  refine bp 2 7 (ro (go_seq (r_in ?_)))
  replace H := cond_some H
  rcases H with ⟨hc61, H⟩ | ⟨hc61, H⟩
  · replace H := cond_some H
    rcases H with ⟨hc62, H⟩ | ⟨hc62, H⟩
    · replace H := must_some H
      obtain ⟨g63, H⟩ := H
      obtain ⟨b64, rfl⟩ := hI.rowAt 3 rfl g63
      obtain ⟨cs67, hk66, hg65⟩ := rdS.look (hI.row 3 rfl) (hI.rowlen 3 rfl) g63
      obtain ⟨_, _, rfl, rfl, ⟨_, _, rfl, rfl, ⟨_, _, rfl, rfl, ⟨A68, c69, rfl, hl71, hr70⟩⟩⟩⟩ := hk66
      replace H := cond_some H
      rcases H with ⟨hc72, H⟩ | ⟨hc72, H⟩
      · obtain ⟨cs75, hk74, hg73⟩ := rdS.look (hI.row 3 rfl) (hI.rowlen 3 rfl) g63
        obtain ⟨_, _, rfl, rfl, ⟨_, _, rfl, rfl, ⟨_, _, rfl, rfl, ⟨A76, c77, rfl, hl79, hr78⟩⟩⟩⟩ := hk74
        replace H := must_some H
        obtain ⟨g80, H⟩ := H
        obtain ⟨b81, q82, rfl, _⟩ := rdS.fopen hr78 rfl g80
        replace H := cond_some H
        rcases H with ⟨hc83, H⟩ | ⟨hc83, H⟩
        · replace H := cond_some H
          rcases H with ⟨hc84, H⟩ | ⟨hc84, H⟩
          · replace H := must_some H
            obtain ⟨g85, H⟩ := H
            obtain ⟨b86, rfl⟩ := hI.rowAt 4 rfl g85
            refine bx 0 [.p, .p, .c true, .p, .p, .p, .p, .c true, .p, .x, .p, .l 0 3, .p, .p, .p, .c true, .p, .x, .p, .l 1 3, .x, .l 2 0, .p, .p, .c true, .p, .p, .p, .p, .c true, .p, .x, .l 3 0, .p, .x, .p, .p] (gD hg65.ok hg73.ok ((rdS.flook hr78 rfl g80).ok) ((rdS.flook (hI.row 4 rfl) (hI.rowlen 4 rfl) g85).ok)) _ (bC (bndEq hc61) (bC (bndEq hc62) (bC g63 (bC (bndEq hc72) (bC g63 (bC g80 (bC (bndEq hc83) (bC (bndEq hc84) (bZ g85))))))))) ?_
            refine ro ?_
            replace H := Option.some.inj H
            subst H
            exact gr Try.func26 ⟨rfl, hI.pn⟩
          · refine bx 0 [.p, .p, .c true, .p, .p, .p, .p, .c true, .p, .x, .p, .l 0 3, .p, .p, .p, .c true, .p, .x, .p, .l 1 3, .x, .l 2 0, .p, .p, .c true, .p, .p, .p, .p, .c false, .p, .p, .p, .p, .p, .p, .p] (gC hg65.ok hg73.ok ((rdS.flook hr78 rfl g80).ok)) _ (bC (bndEq hc61) (bC (bndEq hc62) (bC g63 (bC (bndEq hc72) (bC g63 (bC g80 (bC (bndEq hc83) (bZ (bndEq hc84))))))))) (ro ?_)
            replace H := Option.some.inj H
            subst H
            exact gr Try.func26 ⟨rfl, hI.pn⟩
        · refine bx 0 [.p, .p, .c true, .p, .p, .p, .p, .c true, .p, .x, .p, .l 0 3, .p, .p, .p, .c true, .p, .x, .p, .l 1 3, .x, .l 2 0, .p, .p, .c false, .p, .p, .p, .p, .p, .p, .p, .p, .p, .p, .p, .p] (gC hg65.ok hg73.ok ((rdS.flook hr78 rfl g80).ok)) _ (bC (bndEq hc61) (bC (bndEq hc62) (bC g63 (bC (bndEq hc72) (bC g63 (bC g80 (bZ (bndEq hc83)))))))) (ro ?_)
          replace H := Option.some.inj H
          subst H
          exact gr Try.func26 ⟨rfl, hI.pn⟩
      · refine bx 0 [.p, .p, .c true, .p, .p, .p, .p, .c true, .p, .x, .p, .l 0 3, .p, .p, .p, .c false, .p, .p, .p, .p, .p, .p, .p, .p, .p, .p, .p, .p, .p, .p, .p, .p, .p, .p, .p, .p, .p] (gA hg65.ok) _ (bC (bndEq hc61) (bC (bndEq hc62) (bC g63 (bZ (bndEq hc72))))) (ro ?_)
        replace H := Option.some.inj H
        subst H
        exact gr Try.func26 ⟨rfl, hI.pn⟩
    · refine bx 0 [.p, .p, .c true, .p, .p, .p, .p, .c false, .p, .p, .p, .p, .p, .p, .p, .p, .p, .p, .p, .p, .p, .p, .p, .p, .p, .p, .p, .p, .p, .p, .p, .p, .p, .p, .p, .p, .p] gO _ (bC (bndEq hc61) (bZ (bndEq hc62))) (ro ?_)
      replace H := Option.some.inj H
      subst H
      exact gr Try.func26 ⟨rfl, hI.pn⟩
  · refine bx 0 [.p, .p, .c false, .p, .p, .p, .p, .p, .p, .p, .p, .p, .p, .p, .p, .p, .p, .p, .p, .p, .p, .p, .p, .p, .p, .p, .p, .p, .p, .p, .p, .p, .p, .p, .p, .p, .p] gO _ (bZ (bndEq hc61)) (ro ?_)
    replace H := Option.some.inj H
    subst H
    exact gr Try.func26 ⟨rfl, hI.pn⟩

/-! ### assizeref05zCopy -/
theorem enter27 (a : Array Value) : Sem.pureRun Try.prog (callFunc 27 a) = some (.enter 27 a) := by kernel_rfl
theorem assizeref05zCopy_calls (a0 : History) (A0z0 : Option Addr) (c0z0 : Nat) (A0z1 : Option Addr) (c0z1 : Nat) (M : Mem) (w : World) (hI : Inv M w []) (hr0z0 : rdS tStr M.blk A0z0 a0.Keys) (hl0z0 : a0.Keys.length ≤ c0z0) (hr0z1 : rdS kTxn M.blk A0z1 a0.Txns) (hl0z1 : a0.Txns.length ≤ c0z1) (r : History) (H : assizeref05zCopy a0 = some r) :
    Calls Try.prog 27 #[.agg #[vS A0z0 a0.Keys.length c0z0, vS A0z1 a0.Txns.length c0z1]] w fun e w' => ∃ (A2053 : Option Addr), ∃ (c2054 : Nat), ∃ (A2055 : Option Addr), ∃ (c2056 : Nat), e = .returned (.agg #[vS A2053 r.Keys.length c2054, vS A2055 r.Txns.length c2056]) ∧ Inv M w' [.row tStr 9 A2053 r.Keys.length c2054 r.Keys, .row kTxn 61 A2055 r.Txns.length c2056 r.Txns] := by
  refine cg Try.func27 ?_
  intro cs
  unfold assizeref05zCopy at H
  refine go_seq (r_in (oe 0 rfl ?_))
  refine e_box 40 _ (.agg #[vS A0z0 a0.Keys.length c0z0, vS A0z1 a0.Txns.length c0z1]) [vS A0z0 a0.Keys.length c0z0, vS A0z1 a0.Txns.length c0z1] rfl (by kernel_rfl) rfl hI ?_
  clear hI
  intro b3 _ hI
  refine oe 1 rfl ?_
  refine e_alloc 40 (.agg #[vS none 0 0, vS none 0 0]) [vS none 0 0, vS none 0 0] rfl (by kernel_rfl) rfl hI ?_
  clear hI
  intro b4 _ hI
  refine ro (go_seq (r_in (oe 0 rfl ?_)))
  refine e_empty (α := ByteArray) tStr 37 9 _ rfl rfl rfl hI ?_
  clear hI
  intro b10 _ hI
  refine bg 1 [.p, .l 0 0] (gA (hI.grp 0 rfl)) ?_
  replace H := must_some H
  obtain ⟨g11, H⟩ := H
  refine oe 3 rfl ?_
  refine e_append_rd (kt := tStr) 37 0 9 _ _ _ _ (some ⟨b10, 0, none⟩) A0z0 0 0 ([] : List ByteArray) a0.Keys c0z0 2 [0, 1] [.blk b3 40 [vS A0z0 a0.Keys.length c0z0, vS A0z1 a0.Txns.length c0z1], .blk b4 40 [vS none 0 0, vS none 0 0]] rfl (by kernel_rfl) (by kernel_rfl) rfl rfl rfl rfl rfl (by kernel_rfl) hI (by decide) rfl (hI.rd hr0z0) g11 ?_
  clear hI
  intro A12 c13 _ hI
  refine bp 4 1 (oe 5 rfl ?_)
  refine e_alloc 40 (.agg #[vS none 0 0, vS none 0 0]) [vS none 0 0, vS none 0 0] rfl (by kernel_rfl) rfl hI ?_
  clear hI
  intro b14 _ hI
  refine oe 6 rfl ?_
  refine e_store 40 _ _ 3 b14 40 [vS none 0 0, vS none 0 0] [vS A12 ((([] : List ByteArray) ++ a0.Keys).length) c13, vS none 0 0] 0 (.agg #[vS A12 ((([] : List ByteArray) ++ a0.Keys).length) c13, vS none 0 0]) rfl (by kernel_rfl) (by kernel_rfl) (by kernel_rfl) (by kernel_rfl) hI rfl (by kernel_rfl) (by kernel_rfl) ?_
  clear hI
  intro _ hI
  refine ro (go_seq (go_seq (rp 1 (go_block ?_))))
  refine go_iter (assizeref05zCopy.s1 a0) (fun (l1251, x1254) f w => ∃ (j : Nat → Value) (A1252 : Option Addr) (c1253 : Nat), f = updL j [(1, vP b3 0), (2, vP b4 0), (3, vP b14 0), (4, vI x1254)] ∧ Inv M w [.blk b3 40 [vS A0z0 a0.Keys.length c0z0, vS A0z1 a0.Txns.length c0z1], .blk b4 40 [vS none 0 0, vS none 0 0], .blk b14 40 [vS A12 ((([] : List ByteArray) ++ a0.Keys).length) c13, vS A1252 l1251.length c1253], .row tStr 9 A12 ((([] : List ByteArray) ++ a0.Keys).length) c13 (([] : List ByteArray) ++ a0.Keys), .row kTxn 61 A1252 l1251.length c1253 l1251]) H ⟨_, none, 0, at_, (hI.nilrow kTxn 61).pick [1, 2, 3, 0, 4] (by decide) rfl⟩ ?_
  clear H hI
  rintro ⟨l1251, x1254⟩ _ _ o1 H ⟨_, A1252, c1253, rfl, hI⟩ hin1 hout1
  refine go_seq (go_seq (rg [.p, .p, .l 0 1, .p, .p] (gA (hI.grp 0 rfl)) ?_))
  replace H := cond_some H
  rcases H with ⟨hc1256, H⟩ | ⟨hc1256, H⟩
  · refine gt hc1256 (go_skip (go_seq (go_block (go_seq (r_in ?_)))))
    replace H := must_some H
    obtain ⟨g1558, H⟩ := H
    obtain ⟨b1562, q1563, rfl, cs1561, hk1560, hg1559⟩ := rdS.open hr0z1 rfl g1558
    obtain ⟨_, _, rfl, rfl, ⟨_, _, rfl, rfl, ⟨_, _, rfl, rfl, ⟨_, _, rfl, rfl, ⟨A1564, c1565, rfl, hl1567, hr1566⟩⟩⟩⟩⟩ := hk1560
    refine bx 0 [.p, .l 0 1, .p, .x, .l 1 0] (gB (hI.grp 0 rfl) (hI.lies hg1559)) _ (bZ g1558) (oe 5 rfl ?_)
    refine e_alloc 61 (.agg #[vI 0, vI 0, vI 0, vI 0, vS none 0 0]) [vI 0, vI 0, vI 0, vI 0, vS none 0 0] rfl (by kernel_rfl) rfl hI ?_
    clear hI
    intro b1568 _ hI
    refine oe 6 rfl ?_
    refine e_store 61 _ _ 5 b1568 61 [vI 0, vI 0, vI 0, vI 0, vS none 0 0] [vI ((idx a0.Txns x1254).Proc), vI ((idx a0.Txns x1254).Status), vI ((idx a0.Txns x1254).From), vI ((idx a0.Txns x1254).To), vS A1564 (((idx a0.Txns x1254).Ops).length) c1565] 0 (.agg #[vI ((idx a0.Txns x1254).Proc), vI ((idx a0.Txns x1254).Status), vI ((idx a0.Txns x1254).From), vI ((idx a0.Txns x1254).To), vS A1564 (((idx a0.Txns x1254).Ops).length) c1565]) rfl (by kernel_rfl) (by kernel_rfl) (by kernel_rfl) (by kernel_rfl) hI rfl (by kernel_rfl) (by kernel_rfl) ?_
    clear hI
    intro _ hI
    refine ro (go_seq (r_in (bp 0 1 (oe 1 rfl ?_))))
    refine e_store 59 _ _ 5 b1568 61 [vI ((idx a0.Txns x1254).Proc), vI ((idx a0.Txns x1254).Status), vI ((idx a0.Txns x1254).From), vI ((idx a0.Txns x1254).To), vS A1564 (((idx a0.Txns x1254).Ops).length) c1565] [vI ((idx a0.Txns x1254).Proc), vI ((idx a0.Txns x1254).Status), vI ((idx a0.Txns x1254).From), vI ((idx a0.Txns x1254).To), vS none 0 0] 4 (vS none 0 0) rfl (by kernel_rfl) (by kernel_rfl) (by kernel_rfl) (by kernel_rfl) hI rfl (by kernel_rfl) (by kernel_rfl) ?_
    clear hI
    intro _ hI
    refine ro (go_seq (go_seq (rp 1 (go_block ?_))))
    refine go_iter (assizeref05zCopy.s2 a0 l1251 x1254) (fun (l1917, x1920) f w => ∃ (j : Nat → Value) (A1918 : Option Addr) (c1919 : Nat), f = updL j [(1, vP b3 0), (2, vP b4 0), (3, vP b14 0), (4, vI x1254), (5, vP b1568 0), (6, vI x1920)] ∧ Inv M w [.blk b3 40 [vS A0z0 a0.Keys.length c0z0, vS (some ⟨b1562, q1563, none⟩) a0.Txns.length c0z1], .blk b4 40 [vS none 0 0, vS none 0 0], .blk b14 40 [vS A12 ((([] : List ByteArray) ++ a0.Keys).length) c13, vS A1252 l1251.length c1253], .row tStr 9 A12 ((([] : List ByteArray) ++ a0.Keys).length) c13 (([] : List ByteArray) ++ a0.Keys), .row kTxn 61 A1252 l1251.length c1253 l1251, .blk b1568 61 [vI ((idx a0.Txns x1254).Proc), vI ((idx a0.Txns x1254).Status), vI ((idx a0.Txns x1254).From), vI ((idx a0.Txns x1254).To), vS A1918 l1917.length c1919], .row kOp 63 A1918 l1917.length c1919 l1917]) H ⟨_, none, 0, at_, (hI.nilrow kOp 63)⟩ ?_
    clear H hI
    rintro ⟨l1917, x1920⟩ _ _ o2 H ⟨_, A1918, c1919, rfl, hI⟩ hin2 hout2
    refine go_seq (go_seq (r_in ?_))
    obtain ⟨cs1938, hk1937, hg1936⟩ := rdS.look hr0z1 rfl g1558
    obtain ⟨_, _, rfl, rfl, ⟨_, _, rfl, rfl, ⟨_, _, rfl, rfl, ⟨_, _, rfl, rfl, ⟨A1939, c1940, rfl, hl1942, hr1941⟩⟩⟩⟩⟩ := hk1937
    refine bx 0 [.p, .p, .l 0 1, .p, .x, .p, .l 1 4, .p, .p] (gB (hI.grp 0 rfl) (hI.lies hg1936)) _ (bZ g1558) (ro ?_)
    replace H := cond_some H
    rcases H with ⟨hc1943, H⟩ | ⟨hc1943, H⟩
    · refine gt hc1943 (go_skip (go_seq (go_block (go_seq (r_in ?_)))))
      obtain ⟨cs2018, hk2017, hg2016⟩ := rdS.look hr0z1 rfl g1558
      obtain ⟨_, _, rfl, rfl, ⟨_, _, rfl, rfl, ⟨_, _, rfl, rfl, ⟨_, _, rfl, rfl, ⟨A2019, c2020, rfl, hl2022, hr2021⟩⟩⟩⟩⟩ := hk2017
      replace H := must_some H
      obtain ⟨g2023, H⟩ := H
      obtain ⟨b2027, q2028, rfl, cs2026, hk2025, hg2024⟩ := rdS.open hr2021 rfl g2023
      obtain ⟨_, _, rfl, rfl, ⟨_, _, rfl, rfl, ⟨_, _, rfl, rfl, ⟨_, _, rfl, rfl, ⟨A2029, c2030, rfl, hl2032, hr2031⟩⟩⟩⟩⟩ := hk2025
      refine bx 0 [.p, .l 0 1, .p, .x, .p, .l 1 4, .p, .x, .l 2 0] (gC (hI.grp 0 rfl) (hI.lies hg2016) (hI.lies hg2024)) _ (bC g1558 (bZ g2023)) (oe 9 rfl ?_)
      refine e_alloc 63 (.agg #[vI 0, vI 0, vI 0, vB false, vS none 0 0]) [vI 0, vI 0, vI 0, vB false, vS none 0 0] rfl (by kernel_rfl) rfl hI ?_
      clear hI
      intro b2033 _ hI
      refine oe 10 rfl ?_
      refine e_store 63 _ _ 7 b2033 63 [vI 0, vI 0, vI 0, vB false, vS none 0 0] [vI ((idx ((idx a0.Txns x1254).Ops) x1920).Kind), vI ((idx ((idx a0.Txns x1254).Ops) x1920).Key), vI ((idx ((idx a0.Txns x1254).Ops) x1920).Arg), vB ((idx ((idx a0.Txns x1254).Ops) x1920).Got), vS A2029 (((idx ((idx a0.Txns x1254).Ops) x1920).Vals).length) c2030] 0 (.agg #[vI ((idx ((idx a0.Txns x1254).Ops) x1920).Kind), vI ((idx ((idx a0.Txns x1254).Ops) x1920).Key), vI ((idx ((idx a0.Txns x1254).Ops) x1920).Arg), vB ((idx ((idx a0.Txns x1254).Ops) x1920).Got), vS A2029 (((idx ((idx a0.Txns x1254).Ops) x1920).Vals).length) c2030]) rfl (by kernel_rfl) (by kernel_rfl) (by kernel_rfl) (by kernel_rfl) hI rfl (by kernel_rfl) (by kernel_rfl) ?_
      clear hI
      intro _ hI
      refine ro (go_seq (r_in (oe 0 rfl ?_)))
      refine e_empty (α := Int) (tInt .i64) 22 2 _ rfl rfl rfl hI ?_
      clear hI
      intro b2038 _ hI
      refine bg 1 [.p, .l 0 4] (gA (hI.grp 7 rfl)) ?_
      replace H := must_some H
      obtain ⟨g2039, H⟩ := H
      refine oe 3 rfl ?_
      refine e_append_rd (kt := (tInt .i64)) 22 0 2 _ _ _ _ (some ⟨b2038, 0, none⟩) A2029 0 0 ([] : List Int) ((idx ((idx a0.Txns x1254).Ops) x1920).Vals) c2030 8 [0, 1, 2, 3, 4, 5, 6, 7] [.blk b3 40 [vS A0z0 a0.Keys.length c0z0, vS (some ⟨b1562, q1563, none⟩) a0.Txns.length c0z1], .blk b4 40 [vS none 0 0, vS none 0 0], .blk b14 40 [vS A12 ((([] : List ByteArray) ++ a0.Keys).length) c13, vS A1252 l1251.length c1253], .row tStr 9 A12 ((([] : List ByteArray) ++ a0.Keys).length) c13 (([] : List ByteArray) ++ a0.Keys), .row kTxn 61 A1252 l1251.length c1253 l1251, .blk b1568 61 [vI ((idx a0.Txns x1254).Proc), vI ((idx a0.Txns x1254).Status), vI ((idx a0.Txns x1254).From), vI ((idx a0.Txns x1254).To), vS A1918 l1917.length c1919], .row kOp 63 A1918 l1917.length c1919 l1917, .blk b2033 63 [vI ((idx ((idx a0.Txns x1254).Ops) x1920).Kind), vI ((idx ((idx a0.Txns x1254).Ops) x1920).Key), vI ((idx ((idx a0.Txns x1254).Ops) x1920).Arg), vB ((idx ((idx a0.Txns x1254).Ops) x1920).Got), vS A2029 (((idx ((idx a0.Txns x1254).Ops) x1920).Vals).length) c2030]] rfl (by kernel_rfl) (by kernel_rfl) rfl rfl rfl rfl rfl (by kernel_rfl) hI (by decide) rfl (hI.rd hr2031) g2039 ?_
      clear hI
      intro A2040 c2041 _ hI
      refine bp 4 1 (oe 5 rfl ?_)
      refine e_store 22 _ _ 8 b2033 63 [vI ((idx ((idx a0.Txns x1254).Ops) x1920).Kind), vI ((idx ((idx a0.Txns x1254).Ops) x1920).Key), vI ((idx ((idx a0.Txns x1254).Ops) x1920).Arg), vB ((idx ((idx a0.Txns x1254).Ops) x1920).Got), vS A2029 (((idx ((idx a0.Txns x1254).Ops) x1920).Vals).length) c2030] [vI ((idx ((idx a0.Txns x1254).Ops) x1920).Kind), vI ((idx ((idx a0.Txns x1254).Ops) x1920).Key), vI ((idx ((idx a0.Txns x1254).Ops) x1920).Arg), vB ((idx ((idx a0.Txns x1254).Ops) x1920).Got), vS A2040 ((([] : List Int) ++ ((idx ((idx a0.Txns x1254).Ops) x1920).Vals)).length) c2041] 4 (vS A2040 ((([] : List Int) ++ ((idx ((idx a0.Txns x1254).Ops) x1920).Vals)).length) c2041) rfl (by kernel_rfl) (by kernel_rfl) (by kernel_rfl) (by kernel_rfl) hI rfl (by kernel_rfl) (by kernel_rfl) ?_
      clear hI
      intro _ hI
      refine ro (r_in (bg 0 [.p, .l 0 4, .l 1 0] (gB (hI.grp 6 rfl) (hI.grp 8 rfl)) (oe 3 rfl ?_)))
      refine e_partsS 59 63 1 _ _ _ #[vI ((idx ((idx a0.Txns x1254).Ops) x1920).Kind), vI ((idx ((idx a0.Txns x1254).Ops) x1920).Key), vI ((idx ((idx a0.Txns x1254).Ops) x1920).Arg), vB ((idx ((idx a0.Txns x1254).Ops) x1920).Got), vS A2040 ((([] : List Int) ++ ((idx ((idx a0.Txns x1254).Ops) x1920).Vals)).length) c2041] [vI ((idx ((idx a0.Txns x1254).Ops) x1920).Kind), vI ((idx ((idx a0.Txns x1254).Ops) x1920).Key), vI ((idx ((idx a0.Txns x1254).Ops) x1920).Arg), vB ((idx ((idx a0.Txns x1254).Ops) x1920).Got), vS A2040 ((([] : List Int) ++ ((idx ((idx a0.Txns x1254).Ops) x1920).Vals)).length) c2041] rfl rfl rfl rfl (by kernel_rfl) (by kernel_rfl) (by kernel_rfl) (by kernel_rfl) hI ?_
      clear hI
      intro b2042 _ hs2043 hI
      replace H := must_some H
      obtain ⟨g2044, H⟩ := H
      refine oe 4 rfl ?_
      refine e_append kOp 59 0 63 _ _ _ _ A1918 l1917.length c1919 l1917 ([(⟨(idx ((idx a0.Txns x1254).Ops) x1920).Kind, (idx ((idx a0.Txns x1254).Ops) x1920).Key, (idx ((idx a0.Txns x1254).Ops) x1920).Arg, (idx ((idx a0.Txns x1254).Ops) x1920).Got, ([] : List Int) ++ ((idx ((idx a0.Txns x1254).Ops) x1920).Vals)⟩ : Op)] : List Op) b2042 0 1 1 [vI ((idx ((idx a0.Txns x1254).Ops) x1920).Kind), vI ((idx ((idx a0.Txns x1254).Ops) x1920).Key), vI ((idx ((idx a0.Txns x1254).Ops) x1920).Arg), vB ((idx ((idx a0.Txns x1254).Ops) x1920).Got), vS A2040 ((([] : List Int) ++ ((idx ((idx a0.Txns x1254).Ops) x1920).Vals)).length) c2041] 7 [0] [1, 2, 3, 4, 5, 6, 8, 9] [.row (tInt .i64) 2 A2040 ((([] : List Int) ++ ((idx ((idx a0.Txns x1254).Ops) x1920).Vals)).length) c2041 (([] : List Int) ++ ((idx ((idx a0.Txns x1254).Ops) x1920).Vals))] [.blk b3 40 [vS A0z0 a0.Keys.length c0z0, vS (some ⟨b1562, q1563, none⟩) a0.Txns.length c0z1], .blk b4 40 [vS none 0 0, vS none 0 0], .blk b14 40 [vS A12 ((([] : List ByteArray) ++ a0.Keys).length) c13, vS A1252 l1251.length c1253], .row tStr 9 A12 ((([] : List ByteArray) ++ a0.Keys).length) c13 (([] : List ByteArray) ++ a0.Keys), .row kTxn 61 A1252 l1251.length c1253 l1251, .blk b1568 61 [vI ((idx a0.Txns x1254).Proc), vI ((idx a0.Txns x1254).Status), vI ((idx a0.Txns x1254).From), vI ((idx a0.Txns x1254).To), vS A1918 l1917.length c1919], .blk b2033 63 [vI ((idx ((idx a0.Txns x1254).Ops) x1920).Kind), vI ((idx ((idx a0.Txns x1254).Ops) x1920).Key), vI ((idx ((idx a0.Txns x1254).Ops) x1920).Arg), vB ((idx ((idx a0.Txns x1254).Ops) x1920).Got), vS A2040 ((([] : List Int) ++ ((idx ((idx a0.Txns x1254).Ops) x1920).Vals)).length) c2041], .blk b2042 63 [vI ((idx ((idx a0.Txns x1254).Ops) x1920).Kind), vI ((idx ((idx a0.Txns x1254).Ops) x1920).Key), vI ((idx ((idx a0.Txns x1254).Ops) x1920).Arg), vB ((idx ((idx a0.Txns x1254).Ops) x1920).Got), vS A2040 ((([] : List Int) ++ ((idx ((idx a0.Txns x1254).Ops) x1920).Vals)).length) c2041]] rfl (by kernel_rfl) (by kernel_rfl) rfl rfl rfl rfl rfl (by kernel_rfl) hI (by decide) rfl rfl rfl (hI.grp 9 rfl) g2044 (mks_cons (mk_iso (g := fun g : Op => (g.Kind, g.Key, g.Arg, g.Got, g.Vals)) (x := (⟨(idx ((idx a0.Txns x1254).Ops) x1920).Kind, (idx ((idx a0.Txns x1254).Ops) x1920).Key, (idx ((idx a0.Txns x1254).Ops) x1920).Arg, (idx ((idx a0.Txns x1254).Ops) x1920).Got, ([] : List Int) ++ ((idx ((idx a0.Txns x1254).Ops) x1920).Vals)⟩ : Op)) (mk_pair (mk_flat (k := (tInt .i64)) ((idx ((idx a0.Txns x1254).Ops) x1920).Kind) [vI ((idx ((idx a0.Txns x1254).Ops) x1920).Kind)] rfl) (mk_pair (mk_flat (k := (tInt .i64)) ((idx ((idx a0.Txns x1254).Ops) x1920).Key) [vI ((idx ((idx a0.Txns x1254).Ops) x1920).Key)] rfl) (mk_pair (mk_flat (k := (tInt .i64)) ((idx ((idx a0.Txns x1254).Ops) x1920).Arg) [vI ((idx ((idx a0.Txns x1254).Ops) x1920).Arg)] rfl) (mk_pair (mk_flat (k := tBool) ((idx ((idx a0.Txns x1254).Ops) x1920).Got) [vB ((idx ((idx a0.Txns x1254).Ops) x1920).Got)] rfl) mk_row))))) mks_nil) ?_
      clear hI
      intro A2045 c2046 _ hI
      replace hI := hI.pick (L' := [.row kOp 63 A2045 ((l1917 ++ ([(⟨(idx ((idx a0.Txns x1254).Ops) x1920).Kind, (idx ((idx a0.Txns x1254).Ops) x1920).Key, (idx ((idx a0.Txns x1254).Ops) x1920).Arg, (idx ((idx a0.Txns x1254).Ops) x1920).Got, ([] : List Int) ++ ((idx ((idx a0.Txns x1254).Ops) x1920).Vals)⟩ : Op)] : List Op)).length) c2046 (l1917 ++ ([(⟨(idx ((idx a0.Txns x1254).Ops) x1920).Kind, (idx ((idx a0.Txns x1254).Ops) x1920).Key, (idx ((idx a0.Txns x1254).Ops) x1920).Arg, (idx ((idx a0.Txns x1254).Ops) x1920).Got, ([] : List Int) ++ ((idx ((idx a0.Txns x1254).Ops) x1920).Vals)⟩ : Op)] : List Op)), .blk b3 40 [vS A0z0 a0.Keys.length c0z0, vS (some ⟨b1562, q1563, none⟩) a0.Txns.length c0z1], .blk b4 40 [vS none 0 0, vS none 0 0], .blk b14 40 [vS A12 ((([] : List ByteArray) ++ a0.Keys).length) c13, vS A1252 l1251.length c1253], .row tStr 9 A12 ((([] : List ByteArray) ++ a0.Keys).length) c13 (([] : List ByteArray) ++ a0.Keys), .row kTxn 61 A1252 l1251.length c1253 l1251, .blk b1568 61 [vI ((idx a0.Txns x1254).Proc), vI ((idx a0.Txns x1254).Status), vI ((idx a0.Txns x1254).From), vI ((idx a0.Txns x1254).To), vS A1918 l1917.length c1919], .blk b2033 63 [vI ((idx ((idx a0.Txns x1254).Ops) x1920).Kind), vI ((idx ((idx a0.Txns x1254).Ops) x1920).Key), vI ((idx ((idx a0.Txns x1254).Ops) x1920).Arg), vB ((idx ((idx a0.Txns x1254).Ops) x1920).Got), vS A2040 ((([] : List Int) ++ ((idx ((idx a0.Txns x1254).Ops) x1920).Vals)).length) c2041]]) [0, 1, 2, 3, 4, 5, 6, 7] (by decide) rfl
      refine bp 5 1 (oe 6 rfl ?_)
      refine e_store 59 _ _ 6 b1568 61 [vI ((idx a0.Txns x1254).Proc), vI ((idx a0.Txns x1254).Status), vI ((idx a0.Txns x1254).From), vI ((idx a0.Txns x1254).To), vS A1918 l1917.length c1919] [vI ((idx a0.Txns x1254).Proc), vI ((idx a0.Txns x1254).Status), vI ((idx a0.Txns x1254).From), vI ((idx a0.Txns x1254).To), vS A2045 ((l1917 ++ ([(⟨(idx ((idx a0.Txns x1254).Ops) x1920).Kind, (idx ((idx a0.Txns x1254).Ops) x1920).Key, (idx ((idx a0.Txns x1254).Ops) x1920).Arg, (idx ((idx a0.Txns x1254).Ops) x1920).Got, ([] : List Int) ++ ((idx ((idx a0.Txns x1254).Ops) x1920).Vals)⟩ : Op)] : List Op)).length) c2046] 4 (vS A2045 ((l1917 ++ ([(⟨(idx ((idx a0.Txns x1254).Ops) x1920).Kind, (idx ((idx a0.Txns x1254).Ops) x1920).Key, (idx ((idx a0.Txns x1254).Ops) x1920).Arg, (idx ((idx a0.Txns x1254).Ops) x1920).Got, ([] : List Int) ++ ((idx ((idx a0.Txns x1254).Ops) x1920).Vals)⟩ : Op)] : List Op)).length) c2046) rfl (by kernel_rfl) (by kernel_rfl) (by kernel_rfl) (by kernel_rfl) hI rfl (by kernel_rfl) (by kernel_rfl) ?_
      clear hI
      intro _ hI
      refine ro (go_inBlock (rp 3 ?_))
      exact hin2 _ (Option.some.inj H).symm _ _ ⟨_, A2045, c2046, at_, hI.pick [1, 2, 3, 4, 5, 6, 0] (by decide) rfl⟩
    · refine ge hc1943 ?_
      refine go_exit rfl ?_
      refine r_in (bg 0 [.p, .l 0 1, .l 1 0] (gB (hI.grp 2 rfl) (hI.grp 5 rfl)) (oe 3 rfl ?_))
      refine e_partsS 38 61 1 _ _ _ #[vI ((idx a0.Txns x1254).Proc), vI ((idx a0.Txns x1254).Status), vI ((idx a0.Txns x1254).From), vI ((idx a0.Txns x1254).To), vS A1918 l1917.length c1919] [vI ((idx a0.Txns x1254).Proc), vI ((idx a0.Txns x1254).Status), vI ((idx a0.Txns x1254).From), vI ((idx a0.Txns x1254).To), vS A1918 l1917.length c1919] rfl rfl rfl rfl (by kernel_rfl) (by kernel_rfl) (by kernel_rfl) (by kernel_rfl) hI ?_
      clear hI
      intro b2047 _ hs2048 hI
      replace H := must_some H
      obtain ⟨g2049, H⟩ := H
      refine oe 4 rfl ?_
      refine e_append kTxn 38 0 61 _ _ _ _ A1252 l1251.length c1253 l1251 ([(⟨(idx a0.Txns x1254).Proc, (idx a0.Txns x1254).Status, (idx a0.Txns x1254).From, (idx a0.Txns x1254).To, l1917⟩ : Txn)] : List Txn) b2047 0 1 1 [vI ((idx a0.Txns x1254).Proc), vI ((idx a0.Txns x1254).Status), vI ((idx a0.Txns x1254).From), vI ((idx a0.Txns x1254).To), vS A1918 l1917.length c1919] 4 [6] [0, 1, 2, 3, 5, 7] [.row kOp 63 A1918 l1917.length c1919 l1917] [.blk b3 40 [vS A0z0 a0.Keys.length c0z0, vS (some ⟨b1562, q1563, none⟩) a0.Txns.length c0z1], .blk b4 40 [vS none 0 0, vS none 0 0], .blk b14 40 [vS A12 ((([] : List ByteArray) ++ a0.Keys).length) c13, vS A1252 l1251.length c1253], .row tStr 9 A12 ((([] : List ByteArray) ++ a0.Keys).length) c13 (([] : List ByteArray) ++ a0.Keys), .blk b1568 61 [vI ((idx a0.Txns x1254).Proc), vI ((idx a0.Txns x1254).Status), vI ((idx a0.Txns x1254).From), vI ((idx a0.Txns x1254).To), vS A1918 l1917.length c1919], .blk b2047 61 [vI ((idx a0.Txns x1254).Proc), vI ((idx a0.Txns x1254).Status), vI ((idx a0.Txns x1254).From), vI ((idx a0.Txns x1254).To), vS A1918 l1917.length c1919]] rfl (by kernel_rfl) (by kernel_rfl) rfl rfl rfl rfl rfl (by kernel_rfl) hI (by decide) rfl rfl rfl (hI.grp 7 rfl) g2049 (mks_cons (mk_iso (g := fun g : Txn => (g.Proc, g.Status, g.From, g.To, g.Ops)) (x := (⟨(idx a0.Txns x1254).Proc, (idx a0.Txns x1254).Status, (idx a0.Txns x1254).From, (idx a0.Txns x1254).To, l1917⟩ : Txn)) (mk_pair (mk_flat (k := (tInt .i64)) ((idx a0.Txns x1254).Proc) [vI ((idx a0.Txns x1254).Proc)] rfl) (mk_pair (mk_flat (k := (tInt .i64)) ((idx a0.Txns x1254).Status) [vI ((idx a0.Txns x1254).Status)] rfl) (mk_pair (mk_flat (k := (tInt .i64)) ((idx a0.Txns x1254).From) [vI ((idx a0.Txns x1254).From)] rfl) (mk_pair (mk_flat (k := (tInt .i64)) ((idx a0.Txns x1254).To) [vI ((idx a0.Txns x1254).To)] rfl) mk_row))))) mks_nil) ?_
      clear hI
      intro A2050 c2051 _ hI
      replace hI := hI.pick (L' := [.row kTxn 61 A2050 ((l1251 ++ ([(⟨(idx a0.Txns x1254).Proc, (idx a0.Txns x1254).Status, (idx a0.Txns x1254).From, (idx a0.Txns x1254).To, l1917⟩ : Txn)] : List Txn)).length) c2051 (l1251 ++ ([(⟨(idx a0.Txns x1254).Proc, (idx a0.Txns x1254).Status, (idx a0.Txns x1254).From, (idx a0.Txns x1254).To, l1917⟩ : Txn)] : List Txn)), .blk b3 40 [vS A0z0 a0.Keys.length c0z0, vS (some ⟨b1562, q1563, none⟩) a0.Txns.length c0z1], .blk b4 40 [vS none 0 0, vS none 0 0], .blk b14 40 [vS A12 ((([] : List ByteArray) ++ a0.Keys).length) c13, vS A1252 l1251.length c1253], .row tStr 9 A12 ((([] : List ByteArray) ++ a0.Keys).length) c13 (([] : List ByteArray) ++ a0.Keys), .blk b1568 61 [vI ((idx a0.Txns x1254).Proc), vI ((idx a0.Txns x1254).Status), vI ((idx a0.Txns x1254).From), vI ((idx a0.Txns x1254).To), vS A1918 l1917.length c1919]]) [0, 1, 2, 3, 4, 5] (by decide) rfl
      refine bp 5 1 (oe 6 rfl ?_)
      refine e_store 38 _ _ 3 b14 40 [vS A12 ((([] : List ByteArray) ++ a0.Keys).length) c13, vS A1252 l1251.length c1253] [vS A12 ((([] : List ByteArray) ++ a0.Keys).length) c13, vS A2050 ((l1251 ++ ([(⟨(idx a0.Txns x1254).Proc, (idx a0.Txns x1254).Status, (idx a0.Txns x1254).From, (idx a0.Txns x1254).To, l1917⟩ : Txn)] : List Txn)).length) c2051] 1 (vS A2050 ((l1251 ++ ([(⟨(idx a0.Txns x1254).Proc, (idx a0.Txns x1254).Status, (idx a0.Txns x1254).From, (idx a0.Txns x1254).To, l1917⟩ : Txn)] : List Txn)).length) c2051) rfl (by kernel_rfl) (by kernel_rfl) (by kernel_rfl) (by kernel_rfl) hI rfl (by kernel_rfl) (by kernel_rfl) ?_
      clear hI
      intro _ hI
      refine ro (go_inBlock (rp 3 ?_))
      replace H := out_some H
      obtain ⟨_, H, he2⟩ := H
      have he := (hout2 _ he2).symm
      subst he
      exact hin1 _ (Option.some.inj H).symm _ _ ⟨_, A2050, c2051, at_, hI.pick [1, 2, 3, 4, 0] (by decide) rfl⟩
  · refine ge hc1256 ?_
    refine go_exit rfl ?_
    refine go_seq (r_in (bg 0 [.l 0 0] (gA (hI.grp 2 rfl)) (oe 1 rfl ?_)))
    refine e_store 40 _ _ 1 b4 40 [vS none 0 0, vS none 0 0] [vS A12 ((([] : List ByteArray) ++ a0.Keys).length) c13, vS A1252 l1251.length c1253] 0 (.agg #[vS A12 ((([] : List ByteArray) ++ a0.Keys).length) c13, vS A1252 l1251.length c1253]) rfl (by kernel_rfl) (by kernel_rfl) (by kernel_rfl) (by kernel_rfl) hI rfl (by kernel_rfl) (by kernel_rfl) ?_
    clear hI
    intro _ hI
    refine ro ?_
    replace H := out_some H
    obtain ⟨_, H, he1⟩ := H
    have he := (hout1 _ he1).symm
    subst he
    replace H := Option.some.inj H
    subst H
    exact go_return_c [(b4, 0, [vS A12 ((([] : List ByteArray) ++ a0.Keys).length) c13, vS A1252 l1251.length c1253])] [.c 0] [.agg #[vS A12 ((([] : List ByteArray) ++ a0.Keys).length) c13, vS A1252 l1251.length c1253]] (.agg #[vS A12 ((([] : List ByteArray) ++ a0.Keys).length) c13, vS A1252 l1251.length c1253]) Try.func27 ⟨(hI.grp 1 rfl), trivial⟩ (by kernel_rfl) (by kernel_rfl) (by kernel_rfl) (by kernel_rfl) ⟨A12, c13, A1252, c1253, rfl, hI.pick [3, 4] (by decide) rfl⟩

/-! ### assizeref03zSameVals -/
theorem enter18 (a : Array Value) : Sem.pureRun Try.prog (callFunc 18 a) = some (.enter 18 a) := by kernel_rfl
theorem assizeref03zSameVals_calls (A0z : Option Addr) (c0z : Nat) (a0 : List Int) (A1z : Option Addr) (c1z : Nat) (a1 : List Int) (M : Mem) (w : World) (hI : Inv M w []) (hr0z : rdS (tInt .i64) M.blk A0z a0) (hl0z : a0.length ≤ c0z) (hr1z : rdS (tInt .i64) M.blk A1z a1) (hl1z : a1.length ≤ c1z) (r : Bool) (H : assizeref03zSameVals a0 a1 = some r) :
    Calls Try.prog 18 #[vS A0z a0.length c0z, vS A1z a1.length c1z] w fun e w' => e = .returned (vB r) ∧ Inv M w' [] := by
  refine cg Try.func18 ?_
  intro cs
  unfold assizeref03zSameVals at H
  refine go_seq (rp 1 (go_seq (go_seq (rp 5 ?_))))
  replace H := cond_some H
  rcases H with ⟨hc2, H⟩ | ⟨hc2, H⟩
  · refine gt hc2 (go_seq (rp 1 ?_))
    replace H := Option.some.inj H
    subst H
    exact gr Try.func18 ⟨rfl, hI⟩
  · refine ge hc2 (go_skip (go_seq (go_seq (rp 1 (go_block ?_)))))
    refine go_iter (assizeref03zSameVals.s1 a0 a1) (fun x84 f w => ∃ (j : Nat → Value), f = updL j [(0, vS A0z a0.length c0z), (1, vS A1z a1.length c1z), (5, vI x84)] ∧ Inv M w []) H ⟨_, at_, hI⟩ ?_
    clear H hI
    rintro x84 _ _ o1 H ⟨_, rfl, hI⟩ hin1 hout1
    refine go_seq (go_seq (rp 4 ?_))
    replace H := cond_some H
    rcases H with ⟨hc86, H⟩ | ⟨hc86, H⟩
    · refine gt hc86 (go_skip (go_seq (go_block (go_seq ?_))))
      replace H := must_some H
      obtain ⟨g107, H⟩ := H
      obtain ⟨b108, q109, rfl, _⟩ := rdS.fopen hr0z rfl g107
      replace H := must_some H
      obtain ⟨g110, H⟩ := H
      obtain ⟨b111, q112, rfl, _⟩ := rdS.fopen hr1z rfl g110
      refine dx [.p, .p, .x, .l 0 0, .p, .p, .x, .l 1 0, .p] (gB (hI.lies (rdS.flook hr0z rfl g107)) (hI.lies (rdS.flook hr1z rfl g110))) _ (bC g107 (bZ g110)) hI ?_
      clear hI
      intro _ hI
      replace H := cond_some H
      rcases H with ⟨hc113, H⟩ | ⟨hc113, H⟩
      · refine gt hc113 (go_seq (rp 1 ?_))
        replace H := out_some H
        obtain ⟨_, H, he1⟩ := H
        have he := (hout1 _ he1).symm
        subst he
        replace H := Option.some.inj H
        subst H
        exact gr Try.func18 ⟨rfl, hI⟩
      · refine ge hc113 (go_skip (go_inBlock (rp 3 ?_)))
        exact hin1 _ (Option.some.inj H).symm _ _ ⟨_, at_, hI⟩
    · refine ge hc86 ?_
      refine go_exit rfl ?_
      refine go_seq (rp 1 ?_)
      replace H := out_some H
      obtain ⟨_, H, he1⟩ := H
      have he := (hout1 _ he1).symm
      subst he
      replace H := Option.some.inj H
      subst H
      exact gr Try.func18 ⟨rfl, hI⟩

/-! ### assizeref09zSameAsks -/
theorem enter30 (a : Array Value) : Sem.pureRun Try.prog (callFunc 30 a) = some (.enter 30 a) := by kernel_rfl
theorem assizeref09zSameAsks_calls (A0z : Option Addr) (c0z : Nat) (a0 : List Ask) (A1z : Option Addr) (c1z : Nat) (a1 : List Ask) (M : Mem) (w : World) (hI : Inv M w []) (hr0z : rdS kAsk M.blk A0z a0) (hl0z : a0.length ≤ c0z) (hr1z : rdS kAsk M.blk A1z a1) (hl1z : a1.length ≤ c1z) (r : Bool) (H : assizeref09zSameAsks a0 a1 = some r) :
    Calls Try.prog 30 #[vS A0z a0.length c0z, vS A1z a1.length c1z] w fun e w' => e = .returned (vB r) ∧ Inv M w' [] := by
  refine cg Try.func30 ?_
  intro cs
  unfold assizeref09zSameAsks at H
  refine go_seq (rp 1 (go_seq (go_seq (rp 5 ?_))))
  replace H := cond_some H
  rcases H with ⟨hc2, H⟩ | ⟨hc2, H⟩
  · refine gt hc2 (go_seq (rp 1 ?_))
    replace H := Option.some.inj H
    subst H
    exact gr Try.func30 ⟨rfl, hI⟩
  · refine ge hc2 (go_skip (go_seq (go_seq (rp 1 (go_block ?_)))))
    refine go_iter (assizeref09zSameAsks.s1 a0 a1) (fun x580 f w => ∃ (j : Nat → Value), f = updL j [(0, vS A0z a0.length c0z), (1, vS A1z a1.length c1z), (5, vI x580)] ∧ Inv M w []) H ⟨_, at_, hI⟩ ?_
    clear H hI
    rintro x580 _ _ o1 H ⟨_, rfl, hI⟩ hin1 hout1
    refine go_seq (go_seq (rp 4 ?_))
    replace H := cond_some H
    rcases H with ⟨hc582, H⟩ | ⟨hc582, H⟩
    · refine gt hc582 (go_skip (go_seq (go_block ?_)))
      refine go_seq_join (o := o1) (fun b788 f w => ∃ (j : Nat → Value), f = updL j [(0, vS A0z a0.length c0z), (1, vS A1z a1.length c1z), (5, vI x580), (67, vB b788)] ∧ Inv M w []) (fun b788 => assizeref09zSameAsks.j2 x580 b788) ?_ (fun hJ789 => ?_)
      · clear H hI
        rintro b788 _ _ ⟨_, rfl, hI⟩ H
        replace H := cond_some H
        rcases H with ⟨hc790, H⟩ | ⟨hc790, H⟩
        · refine gt hc790 (go_seq (rp 1 ?_))
          replace H := out_some H
          obtain ⟨_, H, he1⟩ := H
          have he := (hout1 _ he1).symm
          subst he
          replace H := Option.some.inj H
          subst H
          exact gr Try.func30 ⟨rfl, hI⟩
        · refine ge hc790 (go_skip (go_inBlock (rp 3 ?_)))
          exact hin1 _ (Option.some.inj H).symm _ _ ⟨_, at_, hI⟩
      · replace H := must_some H
        obtain ⟨g791, H⟩ := H
        obtain ⟨b795, q796, rfl, cs794, hk793, hg792⟩ := rdS.open hr0z rfl g791
        obtain ⟨_, _, rfl, rfl, ⟨_, _, rfl, rfl, ⟨_, _, rfl, rfl, ⟨A797, c798, rfl, hl800, hr799⟩⟩⟩⟩ := hk793
        replace H := must_some H
        obtain ⟨g801, H⟩ := H
        obtain ⟨b805, q806, rfl, cs804, hk803, hg802⟩ := rdS.open hr1z rfl g801
        obtain ⟨_, _, rfl, rfl, ⟨_, _, rfl, rfl, ⟨_, _, rfl, rfl, ⟨A807, c808, rfl, hl810, hr809⟩⟩⟩⟩ := hk803
        replace H := cond_some H
        rcases H with ⟨hc811, H⟩ | ⟨hc811, H⟩
        · refine dx [.p, .p, .x, .p, .l 0 0, .p, .p, .x, .p, .l 1 0, .p, .c true, .p, .p, .p, .p, .p, .p, .p, .p, .p, .p, .p, .p, .p, .p, .p, .p, .p, .p, .p, .p, .p, .p, .p, .p, .p, .p, .p, .p, .p, .p, .p, .p, .p, .p, .p, .p, .p, .p, .p] (gB (hI.lies hg792) (hI.lies hg802)) _ (bC g791 (bC g801 (bZ (bndEq hc811)))) hI ?_
          clear hI
          intro _ hI
          exact hJ789 true _ _ ⟨_, at_, hI⟩ H
        · obtain ⟨cs814, hk813, hg812⟩ := rdS.look hr0z rfl g791
          obtain ⟨_, _, rfl, rfl, ⟨_, _, rfl, rfl, ⟨_, _, rfl, rfl, ⟨A815, c816, rfl, hl818, hr817⟩⟩⟩⟩ := hk813
          obtain ⟨cs821, hk820, hg819⟩ := rdS.look hr1z rfl g801
          obtain ⟨_, _, rfl, rfl, ⟨_, _, rfl, rfl, ⟨_, _, rfl, rfl, ⟨A822, c823, rfl, hl825, hr824⟩⟩⟩⟩ := hk820
          replace H := cond_some H
          rcases H with ⟨hc826, H⟩ | ⟨hc826, H⟩
          · refine dx [.p, .p, .x, .p, .l 0 0, .p, .p, .x, .p, .l 1 0, .p, .c false, .p, .p, .x, .p, .l 2 1, .p, .p, .x, .p, .l 3 1, .p, .p, .c true, .p, .p, .p, .p, .p, .p, .p, .p, .p, .p, .p, .p, .p, .p, .p, .p, .p, .p, .p, .p, .p, .p, .p, .p, .p, .p] (gD (hI.lies hg792) (hI.lies hg802) (hI.lies hg812) (hI.lies hg819)) _ (bC g791 (bC g801 (bC (bndEq hc811) (bC g791 (bC g801 (bZ (bndEq hc826))))))) hI ?_
            clear hI
            intro _ hI
            exact hJ789 true _ _ ⟨_, at_, hI⟩ H
          · obtain ⟨cs829, hk828, hg827⟩ := rdS.look hr0z rfl g791
            obtain ⟨_, _, rfl, rfl, ⟨_, _, rfl, rfl, ⟨_, _, rfl, rfl, ⟨A830, c831, rfl, hl833, hr832⟩⟩⟩⟩ := hk828
            obtain ⟨cs836, hk835, hg834⟩ := rdS.look hr1z rfl g801
            obtain ⟨_, _, rfl, rfl, ⟨_, _, rfl, rfl, ⟨_, _, rfl, rfl, ⟨A837, c838, rfl, hl840, hr839⟩⟩⟩⟩ := hk835
            replace H := cond_some H
            rcases H with ⟨hc841, H⟩ | ⟨hc841, H⟩
            · refine dx [.p, .p, .x, .p, .l 0 0, .p, .p, .x, .p, .l 1 0, .p, .c false, .p, .p, .x, .p, .l 2 1, .p, .p, .x, .p, .l 3 1, .p, .p, .c false, .p, .p, .x, .p, .l 4 2, .p, .p, .x, .p, .l 5 2, .p, .p, .c true, .p, .p, .p, .p, .p, .p, .p, .p, .p, .p, .p, .p, .p] (gK (hI.lies hg792) (gK (hI.lies hg802) (gD (hI.lies hg812) (hI.lies hg819) (hI.lies hg827) (hI.lies hg834)))) _ (bC g791 (bC g801 (bC (bndEq hc811) (bC g791 (bC g801 (bC (bndEq hc826) (bC g791 (bC g801 (bZ (bndEq hc841)))))))))) hI ?_
              clear hI
              intro _ hI
              exact hJ789 true _ _ ⟨_, at_, hI⟩ H
            · obtain ⟨cs844, hk843, hg842⟩ := rdS.look hr0z rfl g791
              obtain ⟨_, _, rfl, rfl, ⟨_, _, rfl, rfl, ⟨_, _, rfl, rfl, ⟨A845, c846, rfl, hl848, hr847⟩⟩⟩⟩ := hk843
              obtain ⟨cs851, hk850, hg849⟩ := rdS.look hr1z rfl g801
              obtain ⟨_, _, rfl, rfl, ⟨_, _, rfl, rfl, ⟨_, _, rfl, rfl, ⟨A852, c853, rfl, hl855, hr854⟩⟩⟩⟩ := hk850
              replace H := bind_some H
              obtain ⟨y856, hy857, H⟩ := H
              refine go_held (fun w => Inv M w []) (by kernel_rfl) ?_
              replace hI := hI.drew'
              refine hx (n := 3) [(0, .p), (1, .p), (2, .x), (3, .p), (4, .l 0 0), (5, .p), (6, .p), (7, .x), (8, .p), (9, .l 1 0), (10, .p), (11, .c false), (12, .p), (13, .p), (14, .x), (15, .p), (16, .l 2 1), (17, .p), (18, .p), (19, .x), (20, .p), (21, .l 3 1), (22, .p), (23, .p), (24, .c false), (25, .p), (26, .p), (27, .x), (28, .p), (29, .l 4 2), (30, .p), (31, .p), (32, .x), (33, .p), (34, .l 5 2), (35, .p), (36, .p), (37, .c false), (38, .p), (39, .p), (40, .x), (41, .p), (42, .l 6 3), (43, .p), (44, .p), (45, .x), (46, .p), (47, .l 7 3)] (fun _ hS => (gK (hS.lies hg792) (gK (hS.lies hg802) (gK (hS.lies hg812) (gK (hS.lies hg819) (gD (hS.lies hg827) (hS.lies hg834) (hS.lies hg842) (hS.lies hg849))))))) hI _ (bC g791 (bC g801 (bC (bndEq hc811) (bC g791 (bC g801 (bC (bndEq hc826) (bC g791 (bC g801 (bC (bndEq hc841) (bC g791 (bZ g801))))))))))) ?_
              refine ho (n := 2) 48 rfl (ec (enter18 _) (assizeref03zSameVals_calls A845 c846 ((idx a0 x580).Base) A852 c853 ((idx a1 x580).Base) (memOf _) _ (Inv.start _) (hI.rd hr847) hl848 (hI.rd hr854) hl855 _ hy857) ?_)
              rintro _ _ ⟨rfl, hI'⟩
              replace hI := hI.call0 hI'
              clear hI'
              refine ⟨_, rfl, ?_⟩
              refine ⟨hI, ?_⟩
              refine hg (n := 0) [(49, .p), (50, .p)] (fun _ hS => gO) hI (hd ?_)
              exact hJ789 (!y856) _ _ ⟨_, at_, hI⟩ H
    · refine ge hc582 ?_
      refine go_exit rfl ?_
      refine go_seq (rp 1 ?_)
      replace H := out_some H
      obtain ⟨_, H, he1⟩ := H
      have he := (hout1 _ he1).symm
      subst he
      replace H := Option.some.inj H
      subst H
      exact gr Try.func30 ⟨rfl, hI⟩

/-! ### assizeref05zSame -/
theorem enter32 (a : Array Value) : Sem.pureRun Try.prog (callFunc 32 a) = some (.enter 32 a) := by kernel_rfl
theorem assizeref05zSame_calls (a0 : History) (A0z0 : Option Addr) (c0z0 : Nat) (A0z1 : Option Addr) (c0z1 : Nat) (a1 : History) (A1z0 : Option Addr) (c1z0 : Nat) (A1z1 : Option Addr) (c1z1 : Nat) (M : Mem) (w : World) (hI : Inv M w []) (hr0z0 : rdS tStr M.blk A0z0 a0.Keys) (hl0z0 : a0.Keys.length ≤ c0z0) (hr0z1 : rdS kTxn M.blk A0z1 a0.Txns) (hl0z1 : a0.Txns.length ≤ c0z1) (hr1z0 : rdS tStr M.blk A1z0 a1.Keys) (hl1z0 : a1.Keys.length ≤ c1z0) (hr1z1 : rdS kTxn M.blk A1z1 a1.Txns) (hl1z1 : a1.Txns.length ≤ c1z1) (r : Bool) (H : assizeref05zSame a0 a1 = some r) :
    Calls Try.prog 32 #[.agg #[vS A0z0 a0.Keys.length c0z0, vS A0z1 a0.Txns.length c0z1], .agg #[vS A1z0 a1.Keys.length c1z0, vS A1z1 a1.Txns.length c1z1]] w fun e w' => e = .returned (vB r) ∧ Inv M w' [] := by
  refine cg Try.func32 ?_
  intro cs
  unfold assizeref05zSame at H
  refine go_seq (r_in (oe 0 rfl ?_))
  refine e_box 40 _ (.agg #[vS A0z0 a0.Keys.length c0z0, vS A0z1 a0.Txns.length c0z1]) [vS A0z0 a0.Keys.length c0z0, vS A0z1 a0.Txns.length c0z1] rfl (by kernel_rfl) rfl hI ?_
  clear hI
  intro b3 _ hI
  refine oe 1 rfl ?_
  refine e_box 40 _ (.agg #[vS A1z0 a1.Keys.length c1z0, vS A1z1 a1.Txns.length c1z1]) [vS A1z0 a1.Keys.length c1z0, vS A1z1 a1.Txns.length c1z1] rfl (by kernel_rfl) rfl hI ?_
  clear hI
  intro b4 _ hI
  refine bp 2 1 (ro (go_seq ?_))
  refine go_seq_join (o := r) (fun b9 f w => ∃ (j : Nat → Value), f = updL j [(2, vP b3 0), (3, vP b4 0), (27, vB b9)] ∧ Inv M w [.blk b3 40 [vS A0z0 a0.Keys.length c0z0, vS A0z1 a0.Txns.length c0z1], .blk b4 40 [vS A1z0 a1.Keys.length c1z0, vS A1z1 a1.Txns.length c1z1]]) (fun b9 => assizeref05zSame.j1 a0 a1 b9) ?_ (fun hJ10 => ?_)
  · clear H hI
    rintro b9 _ _ ⟨_, rfl, hI⟩ H
    replace H := cond_some H
    rcases H with ⟨hc11, H⟩ | ⟨hc11, H⟩
    · refine gt hc11 (go_seq (rp 1 ?_))
      replace H := Option.some.inj H
      subst H
      exact gr Try.func32 ⟨rfl, hI.pn⟩
    · refine ge hc11 (go_skip (go_seq (go_seq (rp 1 (go_block ?_)))))
      refine go_iter (assizeref05zSame.s2 a0 a1) (fun x93 f w => ∃ (j : Nat → Value), f = updL j [(2, vP b3 0), (3, vP b4 0), (5, vI x93)] ∧ Inv M w [.blk b3 40 [vS A0z0 a0.Keys.length c0z0, vS A0z1 a0.Txns.length c0z1], .blk b4 40 [vS A1z0 a1.Keys.length c1z0, vS A1z1 a1.Txns.length c1z1]]) H ⟨_, at_, hI⟩ ?_
      clear H hI
      rintro x93 _ _ o1 H ⟨_, rfl, hI⟩ hin1 hout1
      refine go_seq (go_seq (rg [.p, .p, .l 0 0, .p, .p] (gA (hI.grp 0 rfl)) ?_))
      replace H := cond_some H
      rcases H with ⟨hc95, H⟩ | ⟨hc95, H⟩
      · refine gt hc95 (go_skip (go_seq (go_block (go_seq ?_))))
        replace H := must_some H
        obtain ⟨g116, H⟩ := H
        obtain ⟨b117, q118, rfl, _⟩ := rdS.fopen hr0z0 rfl g116
        replace H := must_some H
        obtain ⟨g119, H⟩ := H
        obtain ⟨b120, q121, rfl, _⟩ := rdS.fopen hr1z0 rfl g119
        refine dx [.p, .l 0 0, .p, .x, .l 1 0, .p, .l 2 0, .p, .x, .l 3 0, .p] (gD (hI.grp 0 rfl) (hI.lies (rdS.flook hr0z0 rfl g116)) (hI.grp 1 rfl) (hI.lies (rdS.flook hr1z0 rfl g119))) _ (bC g116 (bZ g119)) hI ?_
        clear hI
        intro _ hI
        replace H := cond_some H
        rcases H with ⟨hc122, H⟩ | ⟨hc122, H⟩
        · refine gt hc122 (go_seq (rp 1 ?_))
          replace H := out_some H
          obtain ⟨_, H, he1⟩ := H
          have he := (hout1 _ he1).symm
          subst he
          replace H := Option.some.inj H
          subst H
          exact gr Try.func32 ⟨rfl, hI.pn⟩
        · refine ge hc122 (go_skip (go_inBlock (rp 3 ?_)))
          exact hin1 _ (Option.some.inj H).symm _ _ ⟨_, at_, hI⟩
      · refine ge hc95 ?_
        refine go_exit rfl ?_
        refine go_seq (go_seq (rp 1 (go_block ?_)))
        refine go_iter (assizeref05zSame.s3 a0 a1) (fun x2316 f w => ∃ (j : Nat → Value), f = updL j [(2, vP b3 0), (3, vP b4 0), (6, vI x2316)] ∧ Inv M w [.blk b3 40 [vS A0z0 a0.Keys.length c0z0, vS A0z1 a0.Txns.length c0z1], .blk b4 40 [vS A1z0 a1.Keys.length c1z0, vS A1z1 a1.Txns.length c1z1]]) H ⟨_, at_, hI⟩ ?_
        clear H hI
        rintro x2316 _ _ o2 H ⟨_, rfl, hI⟩ hin2 hout2
        refine go_seq (go_seq (rg [.p, .p, .l 0 1, .p, .p] (gA (hI.grp 0 rfl)) ?_))
        replace H := cond_some H
        rcases H with ⟨hc2318, H⟩ | ⟨hc2318, H⟩
        · refine gt hc2318 (go_skip (go_seq (go_block ?_)))
          refine go_seq_join (o := o2) (fun (_ : Unit) f w => ∃ (j : Nat → Value) (b2909 : Nat) (A2910 : Option Addr) (c2911 : Nat) (b2914 : Nat) (A2915 : Option Addr) (c2916 : Nat), f = updL j [(2, vP b3 0), (3, vP b4 0), (6, vI x2316), (7, vP b2909 0), (8, vP b2914 0)] ∧ rdS kOp M.blk A2910 ((idx a0.Txns x2316).Ops) ∧ ((idx a0.Txns x2316).Ops).length ≤ c2911 ∧ rdS kOp M.blk A2915 ((idx a1.Txns x2316).Ops) ∧ ((idx a1.Txns x2316).Ops).length ≤ c2916 ∧ Inv M w [.blk b3 40 [vS A0z0 a0.Keys.length c0z0, vS A0z1 a0.Txns.length c0z1], .blk b4 40 [vS A1z0 a1.Keys.length c1z0, vS A1z1 a1.Txns.length c1z1], .blk b2909 61 [vI ((idx a0.Txns x2316).Proc), vI ((idx a0.Txns x2316).Status), vI ((idx a0.Txns x2316).From), vI ((idx a0.Txns x2316).To), vS A2910 (((idx a0.Txns x2316).Ops).length) c2911], .blk b2914 61 [vI ((idx a1.Txns x2316).Proc), vI ((idx a1.Txns x2316).Status), vI ((idx a1.Txns x2316).From), vI ((idx a1.Txns x2316).To), vS A2915 (((idx a1.Txns x2316).Ops).length) c2916]]) (fun (_ : Unit) => assizeref05zSame.j4 a0 a1 x2316) ?_ (fun hJ2919 => ?_)
          · clear H hI
            rintro ⟨⟩ _ _ ⟨_, b2909, A2910, c2911, b2914, A2915, c2916, rfl, hr2912, hl2913, hr2917, hl2918, hI⟩ H
            refine go_seq ?_
            refine go_seq_join (o := o2) (fun b2930 f w => ∃ (j : Nat → Value), f = updL j [(2, vP b3 0), (3, vP b4 0), (6, vI x2316), (7, vP b2909 0), (8, vP b2914 0), (97, vB b2930)] ∧ Inv M w [.blk b3 40 [vS A0z0 a0.Keys.length c0z0, vS A0z1 a0.Txns.length c0z1], .blk b4 40 [vS A1z0 a1.Keys.length c1z0, vS A1z1 a1.Txns.length c1z1], .blk b2909 61 [vI ((idx a0.Txns x2316).Proc), vI ((idx a0.Txns x2316).Status), vI ((idx a0.Txns x2316).From), vI ((idx a0.Txns x2316).To), vS A2910 (((idx a0.Txns x2316).Ops).length) c2911], .blk b2914 61 [vI ((idx a1.Txns x2316).Proc), vI ((idx a1.Txns x2316).Status), vI ((idx a1.Txns x2316).From), vI ((idx a1.Txns x2316).To), vS A2915 (((idx a1.Txns x2316).Ops).length) c2916]]) (fun b2930 => assizeref05zSame.j5 a0 a1 x2316 b2930) ?_ (fun hJ2931 => ?_)
            · clear H hI
              rintro b2930 _ _ ⟨_, rfl, hI⟩ H
              replace H := cond_some H
              rcases H with ⟨hc2932, H⟩ | ⟨hc2932, H⟩
              · refine gt hc2932 (go_seq (rp 1 ?_))
                replace H := out_some H
                obtain ⟨_, H, he2⟩ := H
                have he := (hout2 _ he2).symm
                subst he
                replace H := out_some H
                obtain ⟨_, H, he1⟩ := H
                have he := (hout1 _ he1).symm
                subst he
                replace H := Option.some.inj H
                subst H
                exact gr Try.func32 ⟨rfl, hI.pn⟩
              · refine ge hc2932 (go_skip (go_seq (rp 1 (go_block ?_))))
                refine go_iter (assizeref05zSame.s6 a0 a1 x2316) (fun x3279 f w => ∃ (j : Nat → Value), f = updL j [(2, vP b3 0), (3, vP b4 0), (6, vI x2316), (7, vP b2909 0), (8, vP b2914 0), (9, vI x3279)] ∧ Inv M w [.blk b3 40 [vS A0z0 a0.Keys.length c0z0, vS A0z1 a0.Txns.length c0z1], .blk b4 40 [vS A1z0 a1.Keys.length c1z0, vS A1z1 a1.Txns.length c1z1], .blk b2909 61 [vI ((idx a0.Txns x2316).Proc), vI ((idx a0.Txns x2316).Status), vI ((idx a0.Txns x2316).From), vI ((idx a0.Txns x2316).To), vS A2910 (((idx a0.Txns x2316).Ops).length) c2911], .blk b2914 61 [vI ((idx a1.Txns x2316).Proc), vI ((idx a1.Txns x2316).Status), vI ((idx a1.Txns x2316).From), vI ((idx a1.Txns x2316).To), vS A2915 (((idx a1.Txns x2316).Ops).length) c2916]]) H ⟨_, at_, hI⟩ ?_
                clear H hI
                rintro x3279 _ _ o3 H ⟨_, rfl, hI⟩ hin3 hout3
                refine go_seq (go_seq (rg [.p, .p, .l 0 4, .p, .p] (gA (hI.grp 2 rfl)) ?_))
                replace H := cond_some H
                rcases H with ⟨hc3281, H⟩ | ⟨hc3281, H⟩
                · refine gt hc3281 (go_skip (go_seq (go_block ?_)))
                  refine go_seq_join (o := o3) (fun (_ : Unit) f w => ∃ (j : Nat → Value) (b3462 : Nat) (A3463 : Option Addr) (c3464 : Nat) (b3467 : Nat) (A3468 : Option Addr) (c3469 : Nat), f = updL j [(2, vP b3 0), (3, vP b4 0), (6, vI x2316), (7, vP b2909 0), (8, vP b2914 0), (9, vI x3279), (10, vP b3462 0), (11, vP b3467 0)] ∧ rdS (tInt .i64) M.blk A3463 ((idx ((idx a0.Txns x2316).Ops) x3279).Vals) ∧ ((idx ((idx a0.Txns x2316).Ops) x3279).Vals).length ≤ c3464 ∧ rdS (tInt .i64) M.blk A3468 ((idx ((idx a1.Txns x2316).Ops) x3279).Vals) ∧ ((idx ((idx a1.Txns x2316).Ops) x3279).Vals).length ≤ c3469 ∧ Inv M w [.blk b3 40 [vS A0z0 a0.Keys.length c0z0, vS A0z1 a0.Txns.length c0z1], .blk b4 40 [vS A1z0 a1.Keys.length c1z0, vS A1z1 a1.Txns.length c1z1], .blk b2909 61 [vI ((idx a0.Txns x2316).Proc), vI ((idx a0.Txns x2316).Status), vI ((idx a0.Txns x2316).From), vI ((idx a0.Txns x2316).To), vS A2910 (((idx a0.Txns x2316).Ops).length) c2911], .blk b2914 61 [vI ((idx a1.Txns x2316).Proc), vI ((idx a1.Txns x2316).Status), vI ((idx a1.Txns x2316).From), vI ((idx a1.Txns x2316).To), vS A2915 (((idx a1.Txns x2316).Ops).length) c2916], .blk b3462 63 [vI ((idx ((idx a0.Txns x2316).Ops) x3279).Kind), vI ((idx ((idx a0.Txns x2316).Ops) x3279).Key), vI ((idx ((idx a0.Txns x2316).Ops) x3279).Arg), vB ((idx ((idx a0.Txns x2316).Ops) x3279).Got), vS A3463 (((idx ((idx a0.Txns x2316).Ops) x3279).Vals).length) c3464], .blk b3467 63 [vI ((idx ((idx a1.Txns x2316).Ops) x3279).Kind), vI ((idx ((idx a1.Txns x2316).Ops) x3279).Key), vI ((idx ((idx a1.Txns x2316).Ops) x3279).Arg), vB ((idx ((idx a1.Txns x2316).Ops) x3279).Got), vS A3468 (((idx ((idx a1.Txns x2316).Ops) x3279).Vals).length) c3469]]) (fun (_ : Unit) => assizeref05zSame.j7 a0 a1 x2316 x3279) ?_ (fun hJ3472 => ?_)
                  · clear H hI
                    rintro ⟨⟩ _ _ ⟨_, b3462, A3463, c3464, b3467, A3468, c3469, rfl, hr3465, hl3466, hr3470, hl3471, hI⟩ H
                    refine go_seq_join (o := o3) (fun b3479 f w => ∃ (j : Nat → Value), f = updL j [(2, vP b3 0), (3, vP b4 0), (6, vI x2316), (7, vP b2909 0), (8, vP b2914 0), (9, vI x3279), (148, vB b3479)] ∧ Inv M w [.blk b3 40 [vS A0z0 a0.Keys.length c0z0, vS A0z1 a0.Txns.length c0z1], .blk b4 40 [vS A1z0 a1.Keys.length c1z0, vS A1z1 a1.Txns.length c1z1], .blk b2909 61 [vI ((idx a0.Txns x2316).Proc), vI ((idx a0.Txns x2316).Status), vI ((idx a0.Txns x2316).From), vI ((idx a0.Txns x2316).To), vS A2910 (((idx a0.Txns x2316).Ops).length) c2911], .blk b2914 61 [vI ((idx a1.Txns x2316).Proc), vI ((idx a1.Txns x2316).Status), vI ((idx a1.Txns x2316).From), vI ((idx a1.Txns x2316).To), vS A2915 (((idx a1.Txns x2316).Ops).length) c2916]]) (fun b3479 => assizeref05zSame.j8 x3279 b3479) ?_ (fun hJ3480 => ?_)
                    · clear H hI
                      rintro b3479 _ _ ⟨_, rfl, hI⟩ H
                      replace H := cond_some H
                      rcases H with ⟨hc3481, H⟩ | ⟨hc3481, H⟩
                      · refine gt hc3481 (go_seq (rp 1 ?_))
                        replace H := out_some H
                        obtain ⟨_, H, he3⟩ := H
                        have he := (hout3 _ he3).symm
                        subst he
                        replace H := out_some H
                        obtain ⟨_, H, he2⟩ := H
                        have he := (hout2 _ he2).symm
                        subst he
                        replace H := out_some H
                        obtain ⟨_, H, he1⟩ := H
                        have he := (hout1 _ he1).symm
                        subst he
                        replace H := Option.some.inj H
                        subst H
                        exact gr Try.func32 ⟨rfl, hI.pn⟩
                      · refine ge hc3481 (go_skip (go_inBlock (rp 3 ?_)))
                        exact hin3 _ (Option.some.inj H).symm _ _ ⟨_, at_, hI⟩
                    · refine r_in ?_
                      replace H := cond_some H
                      rcases H with ⟨hc3482, H⟩ | ⟨hc3482, H⟩
                      · refine bx 0 [.p, .l 0 0, .p, .l 1 0, .p, .c true, .p, .p, .p, .p, .p, .p, .p, .p, .p, .p, .p, .p, .p, .p, .p, .p, .p, .p, .p, .p, .p, .p, .p, .p, .p, .p, .p, .p] (gB (hI.grp 4 rfl) (hI.grp 5 rfl)) _ (bZ (bndEq hc3482)) (ro ?_)
                        exact hJ3480 true _ _ ⟨_, at_, hI.pick [0, 1, 2, 3] (by decide) rfl⟩ H
                      · replace H := cond_some H
                        rcases H with ⟨hc3483, H⟩ | ⟨hc3483, H⟩
                        · refine bx 0 [.p, .l 0 0, .p, .l 1 0, .p, .c false, .p, .l 0 1, .p, .l 1 1, .p, .p, .c true, .p, .p, .p, .p, .p, .p, .p, .p, .p, .p, .p, .p, .p, .p, .p, .p, .p, .p, .p, .p, .p] (gB (hI.grp 4 rfl) (hI.grp 5 rfl)) _ (bC (bndEq hc3482) (bZ (bndEq hc3483))) (ro ?_)
                          exact hJ3480 true _ _ ⟨_, at_, hI.pick [0, 1, 2, 3] (by decide) rfl⟩ H
                        · replace H := cond_some H
                          rcases H with ⟨hc3484, H⟩ | ⟨hc3484, H⟩
                          · refine bx 0 [.p, .l 0 0, .p, .l 1 0, .p, .c false, .p, .l 0 1, .p, .l 1 1, .p, .p, .c false, .p, .l 0 2, .p, .l 1 2, .p, .p, .c true, .p, .p, .p, .p, .p, .p, .p, .p, .p, .p, .p, .p, .p, .p] (gB (hI.grp 4 rfl) (hI.grp 5 rfl)) _ (bC (bndEq hc3482) (bC (bndEq hc3483) (bZ (bndEq hc3484)))) (ro ?_)
                            exact hJ3480 true _ _ ⟨_, at_, hI.pick [0, 1, 2, 3] (by decide) rfl⟩ H
                          · replace H := cond_some H
                            rcases H with ⟨hc3485, H⟩ | ⟨hc3485, H⟩
                            · refine bx 0 [.p, .l 0 0, .p, .l 1 0, .p, .c false, .p, .l 0 1, .p, .l 1 1, .p, .p, .c false, .p, .l 0 2, .p, .l 1 2, .p, .p, .c false, .p, .l 0 3, .p, .l 1 3, .p, .p, .c true, .p, .p, .p, .p, .p, .p, .p] (gB (hI.grp 4 rfl) (hI.grp 5 rfl)) _ (bC (bndEq hc3482) (bC (bndEq hc3483) (bC (bndEq hc3484) (bZ (bndEq hc3485))))) (ro ?_)
                              exact hJ3480 true _ _ ⟨_, at_, hI.pick [0, 1, 2, 3] (by decide) rfl⟩ H
                            · refine bx 0 [.p, .l 0 0, .p, .l 1 0, .p, .c false, .p, .l 0 1, .p, .l 1 1, .p, .p, .c false, .p, .l 0 2, .p, .l 1 2, .p, .p, .c false, .p, .l 0 3, .p, .l 1 3, .p, .p, .c false, .p, .l 0 4, .p, .l 1 4] (gB (hI.grp 4 rfl) (hI.grp 5 rfl)) _ (bC (bndEq hc3482) (bC (bndEq hc3483) (bC (bndEq hc3484) (bZ (bndEq hc3485))))) ?_
                              replace H := bind_some H
                              obtain ⟨y3486, hy3487, H⟩ := H
                              refine oe 31 rfl ?_
                              refine ec (enter18 _) (assizeref03zSameVals_calls A3463 c3464 ((idx ((idx a0.Txns x2316).Ops) x3279).Vals) A3468 c3469 ((idx ((idx a1.Txns x2316).Ops) x3279).Vals) (memOf _) _ (Inv.start _) (hI.rd hr3465) hl3466 (hI.rd hr3470) hl3471 _ hy3487) ?_
                              rintro _ _ ⟨rfl, hI'⟩
                              replace hI := hI.call0 hI'
                              clear hI'
                              refine ⟨_, rfl, ?_⟩
                              refine bp 32 2 (ro ?_)
                              exact hJ3480 (!y3486) _ _ ⟨_, at_, hI.pick [0, 1, 2, 3] (by decide) rfl⟩ H
                  · replace H := must_some H
                    obtain ⟨g3488, H⟩ := H
                    replace H := must_some H
                    obtain ⟨g3498, H⟩ := H
                    refine go_held (fun w => Inv M w [.blk b3 40 [vS A0z0 a0.Keys.length c0z0, vS A0z1 a0.Txns.length c0z1], .blk b4 40 [vS A1z0 a1.Keys.length c1z0, vS A1z1 a1.Txns.length c1z1], .blk b2909 61 [vI ((idx a0.Txns x2316).Proc), vI ((idx a0.Txns x2316).Status), vI ((idx a0.Txns x2316).From), vI ((idx a0.Txns x2316).To), vS A2910 (((idx a0.Txns x2316).Ops).length) c2911], .blk b2914 61 [vI ((idx a1.Txns x2316).Proc), vI ((idx a1.Txns x2316).Status), vI ((idx a1.Txns x2316).From), vI ((idx a1.Txns x2316).To), vS A2915 (((idx a1.Txns x2316).Ops).length) c2916]]) (by kernel_rfl) ?_
                    replace hI := hI.drew'
                    obtain ⟨b3513, q3514, rfl, cs3512, hk3511, hg3510⟩ := rdS.open hr2912 rfl g3488
                    obtain ⟨_, _, rfl, rfl, ⟨_, _, rfl, rfl, ⟨_, _, rfl, rfl, ⟨_, _, rfl, rfl, ⟨A3515, c3516, rfl, hl3518, hr3517⟩⟩⟩⟩⟩ := hk3511
                    obtain ⟨b3522, q3523, rfl, cs3521, hk3520, hg3519⟩ := rdS.open hr2917 rfl g3498
                    obtain ⟨_, _, rfl, rfl, ⟨_, _, rfl, rfl, ⟨_, _, rfl, rfl, ⟨_, _, rfl, rfl, ⟨A3524, c3525, rfl, hl3527, hr3526⟩⟩⟩⟩⟩ := hk3520
                    refine hx (n := 4) [(0, .p), (1, .l 0 4), (2, .p), (3, .x), (4, .l 1 0), (5, .p), (6, .l 2 4), (7, .p), (8, .x), (9, .l 3 0)] (fun _ hS => (gD (hS.grp 2 rfl) (hS.lies hg3510) (hS.grp 3 rfl) (hS.lies hg3519))) hI _ (bC g3488 (bZ g3498)) ?_
                    refine held_each (n := 3) [10, 11] (by simp) (by kernel_rfl) ⟨⟨_, rfl, by kernel_rfl, ?_⟩, ⟨_, rfl, by kernel_rfl, ?_⟩, trivial⟩
                    · refine (e_alloc 63 (.agg #[vI 0, vI 0, vI 0, vB false, vS none 0 0]) [vI 0, vI 0, vI 0, vB false, vS none 0 0] rfl (by kernel_rfl) rfl hI ?_)
                      clear hI
                      intro b3530 _ hI
                      refine ⟨(hI.pk [0, 1, 2, 3]), ?_⟩
                      refine ho (n := 2) 11 rfl (e_alloc 63 (.agg #[vI 0, vI 0, vI 0, vB false, vS none 0 0]) [vI 0, vI 0, vI 0, vB false, vS none 0 0] rfl (by kernel_rfl) rfl hI ?_)
                      clear hI
                      intro b3532 _ hI
                      refine ⟨(hI.pk [0, 1, 2, 3]), ?_⟩
                      refine ho (n := 1) 12 rfl (e_store 63 _ _ 4 b3530 63 [vI 0, vI 0, vI 0, vB false, vS none 0 0] [vI ((idx ((idx a0.Txns x2316).Ops) x3279).Kind), vI ((idx ((idx a0.Txns x2316).Ops) x3279).Key), vI ((idx ((idx a0.Txns x2316).Ops) x3279).Arg), vB ((idx ((idx a0.Txns x2316).Ops) x3279).Got), vS A3515 (((idx ((idx a0.Txns x2316).Ops) x3279).Vals).length) c3516] 0 (.agg #[vI ((idx ((idx a0.Txns x2316).Ops) x3279).Kind), vI ((idx ((idx a0.Txns x2316).Ops) x3279).Key), vI ((idx ((idx a0.Txns x2316).Ops) x3279).Arg), vB ((idx ((idx a0.Txns x2316).Ops) x3279).Got), vS A3515 (((idx ((idx a0.Txns x2316).Ops) x3279).Vals).length) c3516]) rfl (by kernel_rfl) (by kernel_rfl) (by kernel_rfl) (by kernel_rfl) hI rfl (by kernel_rfl) (by kernel_rfl) ?_)
                      clear hI
                      intro _ hI
                      refine ⟨(hI.pk [0, 1, 2, 3]), ?_⟩
                      refine ho (n := 0) 13 rfl (e_store 63 _ _ 5 b3532 63 [vI 0, vI 0, vI 0, vB false, vS none 0 0] [vI ((idx ((idx a1.Txns x2316).Ops) x3279).Kind), vI ((idx ((idx a1.Txns x2316).Ops) x3279).Key), vI ((idx ((idx a1.Txns x2316).Ops) x3279).Arg), vB ((idx ((idx a1.Txns x2316).Ops) x3279).Got), vS A3524 (((idx ((idx a1.Txns x2316).Ops) x3279).Vals).length) c3525] 0 (.agg #[vI ((idx ((idx a1.Txns x2316).Ops) x3279).Kind), vI ((idx ((idx a1.Txns x2316).Ops) x3279).Key), vI ((idx ((idx a1.Txns x2316).Ops) x3279).Arg), vB ((idx ((idx a1.Txns x2316).Ops) x3279).Got), vS A3524 (((idx ((idx a1.Txns x2316).Ops) x3279).Vals).length) c3525]) rfl (by kernel_rfl) (by kernel_rfl) (by kernel_rfl) (by kernel_rfl) hI rfl (by kernel_rfl) (by kernel_rfl) ?_)
                      clear hI
                      intro _ hI
                      refine ⟨(hI.pk [0, 1, 2, 3]), ?_⟩
                      refine hd ?_
                      exact hJ3472 () _ _ ⟨_, b3530, A3515, c3516, b3532, A3524, c3525, at_, hr3517, hl3518, hr3526, hl3527, hI⟩ H
                    · refine (e_alloc 63 (.agg #[vI 0, vI 0, vI 0, vB false, vS none 0 0]) [vI 0, vI 0, vI 0, vB false, vS none 0 0] rfl (by kernel_rfl) rfl hI ?_)
                      clear hI
                      intro b3533 _ hI
                      refine ⟨(hI.pk [0, 1, 2, 3]), ?_⟩
                      refine ho (n := 2) 10 rfl (e_alloc 63 (.agg #[vI 0, vI 0, vI 0, vB false, vS none 0 0]) [vI 0, vI 0, vI 0, vB false, vS none 0 0] rfl (by kernel_rfl) rfl hI ?_)
                      clear hI
                      intro b3535 _ hI
                      refine ⟨(hI.pk [0, 1, 2, 3]), ?_⟩
                      refine ho (n := 1) 12 rfl (e_store 63 _ _ 5 b3535 63 [vI 0, vI 0, vI 0, vB false, vS none 0 0] [vI ((idx ((idx a0.Txns x2316).Ops) x3279).Kind), vI ((idx ((idx a0.Txns x2316).Ops) x3279).Key), vI ((idx ((idx a0.Txns x2316).Ops) x3279).Arg), vB ((idx ((idx a0.Txns x2316).Ops) x3279).Got), vS A3515 (((idx ((idx a0.Txns x2316).Ops) x3279).Vals).length) c3516] 0 (.agg #[vI ((idx ((idx a0.Txns x2316).Ops) x3279).Kind), vI ((idx ((idx a0.Txns x2316).Ops) x3279).Key), vI ((idx ((idx a0.Txns x2316).Ops) x3279).Arg), vB ((idx ((idx a0.Txns x2316).Ops) x3279).Got), vS A3515 (((idx ((idx a0.Txns x2316).Ops) x3279).Vals).length) c3516]) rfl (by kernel_rfl) (by kernel_rfl) (by kernel_rfl) (by kernel_rfl) hI rfl (by kernel_rfl) (by kernel_rfl) ?_)
                      clear hI
                      intro _ hI
                      refine ⟨(hI.pk [0, 1, 2, 3]), ?_⟩
                      refine ho (n := 0) 13 rfl (e_store 63 _ _ 4 b3533 63 [vI 0, vI 0, vI 0, vB false, vS none 0 0] [vI ((idx ((idx a1.Txns x2316).Ops) x3279).Kind), vI ((idx ((idx a1.Txns x2316).Ops) x3279).Key), vI ((idx ((idx a1.Txns x2316).Ops) x3279).Arg), vB ((idx ((idx a1.Txns x2316).Ops) x3279).Got), vS A3524 (((idx ((idx a1.Txns x2316).Ops) x3279).Vals).length) c3525] 0 (.agg #[vI ((idx ((idx a1.Txns x2316).Ops) x3279).Kind), vI ((idx ((idx a1.Txns x2316).Ops) x3279).Key), vI ((idx ((idx a1.Txns x2316).Ops) x3279).Arg), vB ((idx ((idx a1.Txns x2316).Ops) x3279).Got), vS A3524 (((idx ((idx a1.Txns x2316).Ops) x3279).Vals).length) c3525]) rfl (by kernel_rfl) (by kernel_rfl) (by kernel_rfl) (by kernel_rfl) hI rfl (by kernel_rfl) (by kernel_rfl) ?_)
                      clear hI
                      intro _ hI
                      refine ⟨(hI.pk [0, 1, 2, 3]), ?_⟩
                      refine hd ?_
                      exact hJ3472 () _ _ ⟨_, b3535, A3515, c3516, b3533, A3524, c3525, at_, hr3517, hl3518, hr3526, hl3527, hI.pick [0, 1, 2, 3, 5, 4] (by decide) rfl⟩ H
                · refine ge hc3281 ?_
                  refine go_exit rfl ?_
                  refine go_inBlock (rp 3 ?_)
                  replace H := out_some H
                  obtain ⟨_, H, he3⟩ := H
                  have he := (hout3 _ he3).symm
                  subst he
                  exact hin2 _ (Option.some.inj H).symm _ _ ⟨_, at_, hI.pick [0, 1] (by decide) rfl⟩
            · refine r_in ?_
              replace H := cond_some H
              rcases H with ⟨hc3536, H⟩ | ⟨hc3536, H⟩
              · refine bx 0 [.p, .l 0 0, .p, .l 1 0, .p, .c true, .p, .p, .p, .p, .p, .p, .p, .p, .p, .p, .p, .p, .p, .p, .p, .p, .p, .p, .p, .p, .p, .p, .p, .p, .p, .p, .p, .p, .p] (gB (hI.grp 2 rfl) (hI.grp 3 rfl)) _ (bZ (bndEq hc3536)) (ro ?_)
                exact hJ2931 true _ _ ⟨_, at_, hI⟩ H
              · replace H := cond_some H
                rcases H with ⟨hc3537, H⟩ | ⟨hc3537, H⟩
                · refine bx 0 [.p, .l 0 0, .p, .l 1 0, .p, .c false, .p, .l 0 1, .p, .l 1 1, .p, .p, .c true, .p, .p, .p, .p, .p, .p, .p, .p, .p, .p, .p, .p, .p, .p, .p, .p, .p, .p, .p, .p, .p, .p] (gB (hI.grp 2 rfl) (hI.grp 3 rfl)) _ (bC (bndEq hc3536) (bZ (bndEq hc3537))) (ro ?_)
                  exact hJ2931 true _ _ ⟨_, at_, hI⟩ H
                · replace H := cond_some H
                  rcases H with ⟨hc3538, H⟩ | ⟨hc3538, H⟩
                  · refine bx 0 [.p, .l 0 0, .p, .l 1 0, .p, .c false, .p, .l 0 1, .p, .l 1 1, .p, .p, .c false, .p, .l 0 2, .p, .l 1 2, .p, .p, .c true, .p, .p, .p, .p, .p, .p, .p, .p, .p, .p, .p, .p, .p, .p, .p] (gB (hI.grp 2 rfl) (hI.grp 3 rfl)) _ (bC (bndEq hc3536) (bC (bndEq hc3537) (bZ (bndEq hc3538)))) (ro ?_)
                    exact hJ2931 true _ _ ⟨_, at_, hI⟩ H
                  · replace H := cond_some H
                    rcases H with ⟨hc3539, H⟩ | ⟨hc3539, H⟩
                    · refine bx 0 [.p, .l 0 0, .p, .l 1 0, .p, .c false, .p, .l 0 1, .p, .l 1 1, .p, .p, .c false, .p, .l 0 2, .p, .l 1 2, .p, .p, .c false, .p, .l 0 3, .p, .l 1 3, .p, .p, .c true, .p, .p, .p, .p, .p, .p, .p, .p] (gB (hI.grp 2 rfl) (hI.grp 3 rfl)) _ (bC (bndEq hc3536) (bC (bndEq hc3537) (bC (bndEq hc3538) (bZ (bndEq hc3539))))) (ro ?_)
                      exact hJ2931 true _ _ ⟨_, at_, hI⟩ H
                    · refine bx 0 [.p, .l 0 0, .p, .l 1 0, .p, .c false, .p, .l 0 1, .p, .l 1 1, .p, .p, .c false, .p, .l 0 2, .p, .l 1 2, .p, .p, .c false, .p, .l 0 3, .p, .l 1 3, .p, .p, .c false, .p, .l 0 4, .p, .p, .l 1 4, .p, .p, .p] (gB (hI.grp 2 rfl) (hI.grp 3 rfl)) _ (bC (bndEq hc3536) (bC (bndEq hc3537) (bC (bndEq hc3538) (bZ (bndEq hc3539))))) (ro ?_)
                      exact hJ2931 ((((idx a0.Txns x2316).Ops).length : Int) != (((idx a1.Txns x2316).Ops).length : Int)) _ _ ⟨_, at_, hI⟩ H
          · replace H := must_some H
            obtain ⟨g3540, H⟩ := H
            replace H := must_some H
            obtain ⟨g3550, H⟩ := H
            refine go_held (fun w => Inv M w [.blk b3 40 [vS A0z0 a0.Keys.length c0z0, vS A0z1 a0.Txns.length c0z1], .blk b4 40 [vS A1z0 a1.Keys.length c1z0, vS A1z1 a1.Txns.length c1z1]]) (by kernel_rfl) ?_
            replace hI := hI.drew'
            obtain ⟨b3565, q3566, rfl, cs3564, hk3563, hg3562⟩ := rdS.open hr0z1 rfl g3540
            obtain ⟨_, _, rfl, rfl, ⟨_, _, rfl, rfl, ⟨_, _, rfl, rfl, ⟨_, _, rfl, rfl, ⟨A3567, c3568, rfl, hl3570, hr3569⟩⟩⟩⟩⟩ := hk3563
            obtain ⟨b3574, q3575, rfl, cs3573, hk3572, hg3571⟩ := rdS.open hr1z1 rfl g3550
            obtain ⟨_, _, rfl, rfl, ⟨_, _, rfl, rfl, ⟨_, _, rfl, rfl, ⟨_, _, rfl, rfl, ⟨A3576, c3577, rfl, hl3579, hr3578⟩⟩⟩⟩⟩ := hk3572
            refine hx (n := 4) [(0, .p), (1, .l 0 1), (2, .p), (3, .x), (4, .l 1 0), (5, .p), (6, .l 2 1), (7, .p), (8, .x), (9, .l 3 0)] (fun _ hS => (gD (hS.grp 0 rfl) (hS.lies hg3562) (hS.grp 1 rfl) (hS.lies hg3571))) hI _ (bC g3540 (bZ g3550)) ?_
            refine held_each (n := 3) [10, 11] (by simp) (by kernel_rfl) ⟨⟨_, rfl, by kernel_rfl, ?_⟩, ⟨_, rfl, by kernel_rfl, ?_⟩, trivial⟩
            · refine (e_alloc 61 (.agg #[vI 0, vI 0, vI 0, vI 0, vS none 0 0]) [vI 0, vI 0, vI 0, vI 0, vS none 0 0] rfl (by kernel_rfl) rfl hI ?_)
              clear hI
              intro b3582 _ hI
              refine ⟨(hI.pk [0, 1]), ?_⟩
              refine ho (n := 2) 11 rfl (e_alloc 61 (.agg #[vI 0, vI 0, vI 0, vI 0, vS none 0 0]) [vI 0, vI 0, vI 0, vI 0, vS none 0 0] rfl (by kernel_rfl) rfl hI ?_)
              clear hI
              intro b3584 _ hI
              refine ⟨(hI.pk [0, 1]), ?_⟩
              refine ho (n := 1) 12 rfl (e_store 61 _ _ 2 b3582 61 [vI 0, vI 0, vI 0, vI 0, vS none 0 0] [vI ((idx a0.Txns x2316).Proc), vI ((idx a0.Txns x2316).Status), vI ((idx a0.Txns x2316).From), vI ((idx a0.Txns x2316).To), vS A3567 (((idx a0.Txns x2316).Ops).length) c3568] 0 (.agg #[vI ((idx a0.Txns x2316).Proc), vI ((idx a0.Txns x2316).Status), vI ((idx a0.Txns x2316).From), vI ((idx a0.Txns x2316).To), vS A3567 (((idx a0.Txns x2316).Ops).length) c3568]) rfl (by kernel_rfl) (by kernel_rfl) (by kernel_rfl) (by kernel_rfl) hI rfl (by kernel_rfl) (by kernel_rfl) ?_)
              clear hI
              intro _ hI
              refine ⟨(hI.pk [0, 1]), ?_⟩
              refine ho (n := 0) 13 rfl (e_store 61 _ _ 3 b3584 61 [vI 0, vI 0, vI 0, vI 0, vS none 0 0] [vI ((idx a1.Txns x2316).Proc), vI ((idx a1.Txns x2316).Status), vI ((idx a1.Txns x2316).From), vI ((idx a1.Txns x2316).To), vS A3576 (((idx a1.Txns x2316).Ops).length) c3577] 0 (.agg #[vI ((idx a1.Txns x2316).Proc), vI ((idx a1.Txns x2316).Status), vI ((idx a1.Txns x2316).From), vI ((idx a1.Txns x2316).To), vS A3576 (((idx a1.Txns x2316).Ops).length) c3577]) rfl (by kernel_rfl) (by kernel_rfl) (by kernel_rfl) (by kernel_rfl) hI rfl (by kernel_rfl) (by kernel_rfl) ?_)
              clear hI
              intro _ hI
              refine ⟨(hI.pk [0, 1]), ?_⟩
              refine hd ?_
              exact hJ2919 () _ _ ⟨_, b3582, A3567, c3568, b3584, A3576, c3577, at_, hr3569, hl3570, hr3578, hl3579, hI⟩ H
            · refine (e_alloc 61 (.agg #[vI 0, vI 0, vI 0, vI 0, vS none 0 0]) [vI 0, vI 0, vI 0, vI 0, vS none 0 0] rfl (by kernel_rfl) rfl hI ?_)
              clear hI
              intro b3585 _ hI
              refine ⟨(hI.pk [0, 1]), ?_⟩
              refine ho (n := 2) 10 rfl (e_alloc 61 (.agg #[vI 0, vI 0, vI 0, vI 0, vS none 0 0]) [vI 0, vI 0, vI 0, vI 0, vS none 0 0] rfl (by kernel_rfl) rfl hI ?_)
              clear hI
              intro b3587 _ hI
              refine ⟨(hI.pk [0, 1]), ?_⟩
              refine ho (n := 1) 12 rfl (e_store 61 _ _ 3 b3587 61 [vI 0, vI 0, vI 0, vI 0, vS none 0 0] [vI ((idx a0.Txns x2316).Proc), vI ((idx a0.Txns x2316).Status), vI ((idx a0.Txns x2316).From), vI ((idx a0.Txns x2316).To), vS A3567 (((idx a0.Txns x2316).Ops).length) c3568] 0 (.agg #[vI ((idx a0.Txns x2316).Proc), vI ((idx a0.Txns x2316).Status), vI ((idx a0.Txns x2316).From), vI ((idx a0.Txns x2316).To), vS A3567 (((idx a0.Txns x2316).Ops).length) c3568]) rfl (by kernel_rfl) (by kernel_rfl) (by kernel_rfl) (by kernel_rfl) hI rfl (by kernel_rfl) (by kernel_rfl) ?_)
              clear hI
              intro _ hI
              refine ⟨(hI.pk [0, 1]), ?_⟩
              refine ho (n := 0) 13 rfl (e_store 61 _ _ 2 b3585 61 [vI 0, vI 0, vI 0, vI 0, vS none 0 0] [vI ((idx a1.Txns x2316).Proc), vI ((idx a1.Txns x2316).Status), vI ((idx a1.Txns x2316).From), vI ((idx a1.Txns x2316).To), vS A3576 (((idx a1.Txns x2316).Ops).length) c3577] 0 (.agg #[vI ((idx a1.Txns x2316).Proc), vI ((idx a1.Txns x2316).Status), vI ((idx a1.Txns x2316).From), vI ((idx a1.Txns x2316).To), vS A3576 (((idx a1.Txns x2316).Ops).length) c3577]) rfl (by kernel_rfl) (by kernel_rfl) (by kernel_rfl) (by kernel_rfl) hI rfl (by kernel_rfl) (by kernel_rfl) ?_)
              clear hI
              intro _ hI
              refine ⟨(hI.pk [0, 1]), ?_⟩
              refine hd ?_
              exact hJ2919 () _ _ ⟨_, b3587, A3567, c3568, b3585, A3576, c3577, at_, hr3569, hl3570, hr3578, hl3579, hI.pick [0, 1, 3, 2] (by decide) rfl⟩ H
        · refine ge hc2318 ?_
          refine go_exit rfl ?_
          refine go_seq (rp 1 ?_)
          replace H := out_some H
          obtain ⟨_, H, he2⟩ := H
          have he := (hout2 _ he2).symm
          subst he
          replace H := out_some H
          obtain ⟨_, H, he1⟩ := H
          have he := (hout1 _ he1).symm
          subst he
          replace H := Option.some.inj H
          subst H
          exact gr Try.func32 ⟨rfl, hI.pn⟩
  · refine r_in ?_
    replace H := cond_some H
    rcases H with ⟨hc3588, H⟩ | ⟨hc3588, H⟩
    · refine bx 0 [.p, .l 0 0, .p, .p, .l 1 0, .p, .p, .c true, .p, .p, .p, .p, .p, .p, .p, .p] (gB (hI.grp 0 rfl) (hI.grp 1 rfl)) _ (bZ (bndEq hc3588)) (ro ?_)
      exact hJ10 true _ _ ⟨_, at_, hI⟩ H
    · refine bx 0 [.p, .l 0 0, .p, .p, .l 1 0, .p, .p, .c false, .p, .l 0 1, .p, .p, .l 1 1, .p, .p, .p] (gB (hI.grp 0 rfl) (hI.grp 1 rfl)) _ (bZ (bndEq hc3588)) (ro ?_)
      exact hJ10 ((a0.Txns.length : Int) != (a1.Txns.length : Int)) _ _ ⟨_, at_, hI⟩ H

/-! ### local_all -/
theorem enter45 (a : Array Value) : Sem.pureRun Try.prog (callFunc 45 a) = some (.enter 45 a) := by kernel_rfl
theorem local_all_calls (a0 : History) (A0z0 : Option Addr) (c0z0 : Nat) (A0z1 : Option Addr) (c0z1 : Nat) (M : Mem) (w : World) (hI : Inv M w []) (hr0z0 : rdS tStr M.blk A0z0 a0.Keys) (hl0z0 : a0.Keys.length ≤ c0z0) (hr0z1 : rdS kTxn M.blk A0z1 a0.Txns) (hl0z1 : a0.Txns.length ≤ c0z1) (r : LocalFound × Int) (H : local_all a0 = some r) :
    Calls Try.prog 45 #[.agg #[vS A0z0 a0.Keys.length c0z0, vS A0z1 a0.Txns.length c0z1]] w fun e w' => ∃ (A273 : Option Addr), ∃ (c274 : Nat), ∃ (A275 : Option Addr), ∃ (c276 : Nat), e = .returned (.tuple #[.agg #[vS A273 r.1.asks.length c274, vS A275 r.1.bad.length c276], vI r.2]) ∧ Inv M w' [.row kAsk 51 A273 r.1.asks.length c274 r.1.asks, .row kSpot 53 A275 r.1.bad.length c276 r.1.bad] := by
  refine cg Try.func45 ?_
  intro cs
  unfold local_all at H
  refine go_seq (r_in (oe 0 rfl ?_))
  refine e_box 40 _ (.agg #[vS A0z0 a0.Keys.length c0z0, vS A0z1 a0.Txns.length c0z1]) [vS A0z0 a0.Keys.length c0z0, vS A0z1 a0.Txns.length c0z1] rfl (by kernel_rfl) rfl hI ?_
  clear hI
  intro b3 _ hI
  refine oe 1 rfl ?_
  refine e_alloc 75 (.agg #[vS none 0 0, vS none 0 0]) [vS none 0 0, vS none 0 0] rfl (by kernel_rfl) rfl hI ?_
  clear hI
  intro b4 _ hI
  refine bp 2 1 (ro (go_seq (r_in (oe 0 rfl ?_))))
  refine e_alloc 75 (.agg #[vS none 0 0, vS none 0 0]) [vS none 0 0, vS none 0 0] rfl (by kernel_rfl) rfl hI ?_
  clear hI
  intro b6 _ hI
  refine ro (go_seq (go_seq (r_in (bg 0 [.l 0 0] (gA (hI.grp 0 rfl)) ?_))))
  replace H := bind_some H
  obtain ⟨y12, hy13, H⟩ := H
  refine oe 1 rfl ?_
  refine ec (enter41 _) (index_Check_calls a0 A0z0 c0z0 A0z1 c0z1 (memOf _) _ (Inv.start _) (hI.rd hr0z0) hl0z0 (hI.rd hr0z1) hl0z1 _ hy13) ?_
  rintro _ _ ⟨rfl, hI'⟩
  replace hI := hI.call0 hI'
  clear hI'
  refine ⟨_, rfl, ?_⟩
  refine bp 2 1 (ro (go_seq (rp 2 ?_)))
  replace H := cond_some H
  rcases H with ⟨hc14, H⟩ | ⟨hc14, H⟩
  · refine gt hc14 (go_seq (r_in (bg 0 [.l 0 0, .p] (gA (hI.grp 2 rfl)) (oe 2 rfl ?_))))
    refine e_store 75 _ _ 1 b4 75 [vS none 0 0, vS none 0 0] [vS none 0 0, vS none 0 0] 0 (.agg #[vS none 0 0, vS none 0 0]) rfl (by kernel_rfl) (by kernel_rfl) (by kernel_rfl) (by kernel_rfl) hI rfl (by kernel_rfl) (by kernel_rfl) ?_
    clear hI
    intro _ hI
    refine bp 3 1 (ro ?_)
    replace H := Option.some.inj H
    subst H
    exact go_return_c [(b4, 0, [vS none 0 0, vS none 0 0])] [.c 0, .t] [.agg #[vS none 0 0, vS none 0 0], vI y12] (.tuple #[.agg #[vS none 0 0, vS none 0 0], vI y12]) Try.func45 ⟨(hI.grp 1 rfl), trivial⟩ (by kernel_rfl) (by kernel_rfl) (by kernel_rfl) (by kernel_rfl) ⟨none, 0, none, 0, rfl, ((hI.nilrow kAsk 51).nilrow kSpot 53).pick [3, 4] (by decide) rfl⟩
  · refine ge hc14 (go_skip (go_seq (go_seq (rg [.p, .l 0 1, .p, .p] (gA (hI.grp 0 rfl)) (go_block ?_)))))
    refine go_iter (local_all.s1 a0) (fun (l230, l233, x236) f w => ∃ (j : Nat → Value) (A231 : Option Addr) (c232 : Nat) (A234 : Option Addr) (c235 : Nat), f = updL j [(1, vP b3 0), (2, vP b4 0), (4, vP b6 0), (15, vI (a0.Txns.length : Int)), (16, vI x236)] ∧ Inv M w [.blk b3 40 [vS A0z0 a0.Keys.length c0z0, vS A0z1 a0.Txns.length c0z1], .blk b4 75 [vS none 0 0, vS none 0 0], .blk b6 75 [vS A231 l230.length c232, vS A234 l233.length c235], .row kAsk 51 A231 l230.length c232 l230, .row kSpot 53 A234 l233.length c235 l233]) H ⟨_, none, 0, none, 0, at_, ((hI.nilrow kAsk 51).nilrow kSpot 53)⟩ ?_
    clear H hI
    rintro ⟨l230, l233, x236⟩ _ _ o1 H ⟨_, A231, c232, A234, c235, rfl, hI⟩ hin1 hout1
    refine go_seq (rp 1 (go_seq ?_))
    replace H := cond_some H
    rcases H with ⟨hc238, H⟩ | ⟨hc238, H⟩
    · refine gt hc238 (go_skip (go_seq (go_block (go_seq (rp 2 (r_in (bg 0 [.l 0 0, .p] (gA (hI.grp 0 rfl)) ?_)))))))
      replace H := bind_some H
      obtain ⟨y266, hy267, H⟩ := H
      obtain ⟨M261, hJ262, hs263, hro264, hback265⟩ := hI.call (R := [.blk b6 75 [vS A231 l230.length c232, vS A234 l233.length c235], .row kAsk 51 A231 l230.length c232 l230, .row kSpot 53 A234 l233.length c235 l233]) (L0 := [.blk b3 40 [vS A0z0 a0.Keys.length c0z0, vS A0z1 a0.Txns.length c0z1], .blk b4 75 [vS none 0 0, vS none 0 0]]) [2, 3, 4] [0, 1] (by decide) rfl
      refine oe 2 rfl ?_
      refine ec (enter42 _) (local_found_look_calls b6 (⟨l230, l233⟩ : LocalFound) A231 c232 A234 c235 a0 A0z0 c0z0 A0z1 c0z1 x236 M261 _ hJ262 (rdS.mono hr0z0 hs263) hl0z0 (rdS.mono hr0z1 hs263) hl0z1 _ hy267) ?_
      rintro _ _ ⟨A268, c269, A270, c271, rfl, hI'⟩
      replace hI := hback265 _ _ hI'
      clear hI'
      refine ⟨_, rfl, ?_⟩
      refine ro (go_inBlock (rp 2 ?_))
      exact hin1 _ (Option.some.inj H).symm _ _ ⟨_, A268, c269, A270, c271, at_, hI.pick [3, 4, 0, 1, 2] (by decide) rfl⟩
    · refine ge hc238 ?_
      refine go_exit rfl ?_
      refine go_seq (r_in (bg 0 [.l 0 0] (gA (hI.grp 2 rfl)) (oe 1 rfl ?_)))
      refine e_store 75 _ _ 1 b4 75 [vS none 0 0, vS none 0 0] [vS A231 l230.length c232, vS A234 l233.length c235] 0 (.agg #[vS A231 l230.length c232, vS A234 l233.length c235]) rfl (by kernel_rfl) (by kernel_rfl) (by kernel_rfl) (by kernel_rfl) hI rfl (by kernel_rfl) (by kernel_rfl) ?_
      clear hI
      intro _ hI
      refine bp 2 1 (ro ?_)
      replace H := out_some H
      obtain ⟨_, H, he1⟩ := H
      have he := (hout1 _ he1).symm
      subst he
      replace H := Option.some.inj H
      subst H
      exact go_return_c [(b4, 0, [vS A231 l230.length c232, vS A234 l233.length c235])] [.c 0, .t] [.agg #[vS A231 l230.length c232, vS A234 l233.length c235], vI 0] (.tuple #[.agg #[vS A231 l230.length c232, vS A234 l233.length c235], vI 0]) Try.func45 ⟨(hI.grp 1 rfl), trivial⟩ (by kernel_rfl) (by kernel_rfl) (by kernel_rfl) (by kernel_rfl) ⟨A231, c232, A234, c235, rfl, hI.pick [3, 4] (by decide) rfl⟩

/-! ### local_Asks -/
theorem enter33 (a : Array Value) : Sem.pureRun Try.prog (callFunc 33 a) = some (.enter 33 a) := by kernel_rfl
theorem local_Asks_calls (a0 : History) (A0z0 : Option Addr) (c0z0 : Nat) (A0z1 : Option Addr) (c0z1 : Nat) (M : Mem) (w : World) (hI : Inv M w []) (hr0z0 : rdS tStr M.blk A0z0 a0.Keys) (hl0z0 : a0.Keys.length ≤ c0z0) (hr0z1 : rdS kTxn M.blk A0z1 a0.Txns) (hl0z1 : a0.Txns.length ≤ c0z1) (r : List Ask × Int) (H : local_Asks a0 = some r) :
    Calls Try.prog 33 #[.agg #[vS A0z0 a0.Keys.length c0z0, vS A0z1 a0.Txns.length c0z1]] w fun e w' => ∃ (A18 : Option Addr), ∃ (c19 : Nat), e = .returned (.tuple #[vS A18 r.1.length c19, vI r.2]) ∧ Inv M w' [.row kAsk 51 A18 r.1.length c19 r.1] := by
  refine cg Try.func33 ?_
  intro cs
  unfold local_Asks at H
  refine go_seq (r_in (oe 0 rfl ?_))
  refine e_box 40 _ (.agg #[vS A0z0 a0.Keys.length c0z0, vS A0z1 a0.Txns.length c0z1]) [vS A0z0 a0.Keys.length c0z0, vS A0z1 a0.Txns.length c0z1] rfl (by kernel_rfl) rfl hI ?_
  clear hI
  intro b2 _ hI
  refine bp 1 2 (ro (go_seq (r_in (bg 0 [.l 0 0] (gA (hI.grp 0 rfl)) ?_))))
  replace H := bind_some H
  obtain ⟨y10, hy11, H⟩ := H
  refine oe 1 rfl ?_
  refine ec (enter45 _) (local_all_calls a0 A0z0 c0z0 A0z1 c0z1 (memOf _) _ (Inv.start _) (hI.rd hr0z0) hl0z0 (hI.rd hr0z1) hl0z1 _ hy11) ?_
  rintro _ _ ⟨A12, c13, A14, c15, rfl, hI'⟩
  replace hI := hI.call0 hI'
  clear hI'
  refine ⟨_, rfl, ?_⟩
  refine bp 2 3 (oe 5 rfl ?_)
  refine e_alloc 75 (.agg #[vS none 0 0, vS none 0 0]) [vS none 0 0, vS none 0 0] rfl (by kernel_rfl) rfl hI ?_
  clear hI
  intro b16 _ hI
  refine oe 6 rfl ?_
  refine e_store 75 _ _ 3 b16 75 [vS none 0 0, vS none 0 0] [vS A12 y10.1.asks.length c13, vS A14 y10.1.bad.length c15] 0 (.agg #[vS A12 y10.1.asks.length c13, vS A14 y10.1.bad.length c15]) rfl (by kernel_rfl) (by kernel_rfl) (by kernel_rfl) (by kernel_rfl) hI rfl (by kernel_rfl) (by kernel_rfl) ?_
  clear hI
  intro _ hI
  refine bp 7 1 (ro (go_seq (rg [.p, .l 0 0, .p, .p, .p] (gA (hI.grp 3 rfl)) ?_)))
  replace H := Option.some.inj H
  subst H
  exact gr Try.func33 ⟨A12, c13, rfl, hI.pick [1] (by decide) rfl⟩

/-! ### assizeref05zfind -/
theorem enter64 (a : Array Value) : Sem.pureRun Try.prog (callFunc 64 a) = some (.enter 64 a) := by kernel_rfl
theorem assizeref05zfind_calls (A0z : Option Addr) (c0z : Nat) (a0 : List ByteArray) (a1 : ByteArray) (M : Mem) (w : World) (hI : Inv M w []) (hr0z : rdS tStr M.blk A0z a0) (hl0z : a0.length ≤ c0z) (r : Int) (H : assizeref05zfind a0 a1 = some r) :
    Calls Try.prog 64 #[vS A0z a0.length c0z, .string a1] w fun e w' => e = .returned (vI r) ∧ Inv M w' [] := by
  refine cg Try.func64 ?_
  intro cs
  unfold assizeref05zfind at H
  refine go_seq (rp 1 (go_seq (go_seq (rp 1 (go_block ?_)))))
  refine go_iter (assizeref05zfind.s1 a0 a1) (fun x58 f w => ∃ (j : Nat → Value), f = updL j [(0, vS A0z a0.length c0z), (1, .string a1), (5, vI x58)] ∧ Inv M w []) H ⟨_, at_, hI⟩ ?_
  clear H hI
  rintro x58 _ _ o1 H ⟨_, rfl, hI⟩ hin1 hout1
  refine go_seq (go_seq (rp 4 ?_))
  replace H := cond_some H
  rcases H with ⟨hc60, H⟩ | ⟨hc60, H⟩
  · refine gt hc60 (go_skip (go_seq (go_block (go_seq (r_in ?_)))))
    replace H := must_some H
    obtain ⟨g72, H⟩ := H
    obtain ⟨b73, q74, rfl, _⟩ := rdS.fopen hr0z rfl g72
    refine bx 0 [.p, .p, .x, .l 0 0, .p, .p] (gA (hI.lies (rdS.flook hr0z rfl g72))) _ (bZ g72) (ro ?_)
    replace H := cond_some H
    rcases H with ⟨hc75, H⟩ | ⟨hc75, H⟩
    · refine gt hc75 (go_seq (rp 2 ?_))
      replace H := out_some H
      obtain ⟨_, H, he1⟩ := H
      have he := (hout1 _ he1).symm
      subst he
      replace H := Option.some.inj H
      subst H
      exact gr Try.func64 ⟨rfl, hI⟩
    · refine ge hc75 (go_skip (go_inBlock (rp 3 ?_)))
      exact hin1 _ (Option.some.inj H).symm _ _ ⟨_, at_, hI⟩
  · refine ge hc60 ?_
    refine go_exit rfl ?_
    refine go_seq (rp 1 ?_)
    replace H := out_some H
    obtain ⟨_, H, he1⟩ := H
    have he := (hout1 _ he1).symm
    subst he
    replace H := Option.some.inj H
    subst H
    exact gr Try.func64 ⟨rfl, hI⟩

/-! ### assizeref05znames -/
theorem enter53 (a : Array Value) : Sem.pureRun Try.prog (callFunc 53 a) = some (.enter 53 a) := by kernel_rfl
theorem assizeref05znames_calls (A0z : Option Addr) (c0z : Nat) (a0 : List ByteArray) (M : Mem) (w : World) (hI : Inv M w []) (hr0z : rdS tStr M.blk A0z a0) (hl0z : a0.length ≤ c0z) (r : Bool) (H : assizeref05znames a0 = some r) :
    Calls Try.prog 53 #[vS A0z a0.length c0z] w fun e w' => e = .returned (vB r) ∧ Inv M w' [] := by
  refine cg Try.func53 ?_
  intro cs
  unfold assizeref05znames at H
  refine go_seq (rp 1 (go_seq (go_seq (rp 1 (go_block ?_)))))
  refine go_iter (assizeref05znames.s1 a0) (fun x138 f w => ∃ (j : Nat → Value), f = updL j [(0, vS A0z a0.length c0z), (3, vI x138)] ∧ Inv M w []) H ⟨_, at_, hI⟩ ?_
  clear H hI
  rintro x138 _ _ o1 H ⟨_, rfl, hI⟩ hin1 hout1
  refine go_seq (go_seq (rp 4 ?_))
  replace H := cond_some H
  rcases H with ⟨hc140, H⟩ | ⟨hc140, H⟩
  · refine gt hc140 (go_skip (go_seq (go_block ?_)))
    refine go_seq_join (o := o1) (fun b181 f w => ∃ (j : Nat → Value), f = updL j [(0, vS A0z a0.length c0z), (3, vI x138), (34, vB b181)] ∧ Inv M w []) (fun b181 => assizeref05znames.j2 x138 b181) ?_ (fun hJ182 => ?_)
    · clear H hI
      rintro b181 _ _ ⟨_, rfl, hI⟩ H
      replace H := cond_some H
      rcases H with ⟨hc183, H⟩ | ⟨hc183, H⟩
      · refine gt hc183 (go_seq (rp 1 ?_))
        replace H := out_some H
        obtain ⟨_, H, he1⟩ := H
        have he := (hout1 _ he1).symm
        subst he
        replace H := Option.some.inj H
        subst H
        exact gr Try.func53 ⟨rfl, hI⟩
      · refine ge hc183 (go_skip (go_inBlock (rp 3 ?_)))
        exact hin1 _ (Option.some.inj H).symm _ _ ⟨_, at_, hI⟩
    · replace H := must_some H
      obtain ⟨g184, H⟩ := H
      obtain ⟨b185, q186, rfl, _⟩ := rdS.fopen hr0z rfl g184
      replace H := cond_some H
      rcases H with ⟨hc187, H⟩ | ⟨hc187, H⟩
      · refine dx [.p, .p, .x, .l 0 0, .p, .p, .c true, .p, .p, .p, .p, .p, .p, .p, .p, .p, .p, .p, .p, .p, .p, .p, .p, .p, .p] (gA (hI.lies (rdS.flook hr0z rfl g184))) _ (bC g184 (bZ (bndEq hc187))) hI ?_
        clear hI
        intro _ hI
        exact hJ182 true _ _ ⟨_, at_, hI⟩ H
      · replace H := cond_some H
        rcases H with ⟨hc188, H⟩ | ⟨hc188, H⟩
        · refine dx [.p, .p, .x, .l 0 0, .p, .p, .c false, .p, .p, .x, .l 0 0, .p, .p, .p, .c true, .p, .p, .p, .p, .p, .p, .p, .p, .p, .p] (gA (hI.lies (rdS.flook hr0z rfl g184))) _ (bC g184 (bC (bndEq hc187) (bC g184 (bZ (bndEq hc188))))) hI ?_
          clear hI
          intro _ hI
          exact hJ182 true _ _ ⟨_, at_, hI⟩ H
        · replace H := must_some H
          obtain ⟨g189, H⟩ := H
          replace H := bind_some H
          obtain ⟨y194, hy195, H⟩ := H
          refine go_held (fun w => Inv M w []) (by kernel_rfl) ?_
          replace hI := hI.drew'
          refine hx (n := 4) [(0, .p), (1, .p), (2, .x), (3, .l 0 0), (4, .p), (5, .p), (6, .c false), (7, .p), (8, .p), (9, .x), (10, .l 0 0), (11, .p), (12, .p), (13, .p), (14, .c false), (15, .p), (16, .p), (18, .p), (19, .p), (20, .x), (21, .l 0 0)] (fun _ hS => (gA (hS.lies (rdS.flook hr0z rfl g184)))) hI _ (bC g184 (bC (bndEq hc187) (bC g184 (bC (bndEq hc188) (bZ g184))))) ?_
          refine ho (n := 3) 17 rfl (e_slice_ro tStr _ 37 9 _ _ _ _ (some ⟨b185, q186, none⟩) c0z a0 .i64 .i64 (0 : Int) x138 rfl (by kernel_rfl) (by kernel_rfl) (by kernel_rfl) rfl rfl rfl hr0z hl0z g189 ?_)
          intro A190 c191 hr192 hl193
          refine ⟨hI, ?_⟩
          refine ho (n := 2) 22 rfl (ec (enter64 _) (assizeref05zfind_calls A190 c191 (subl a0 (0 : Int) x138) (idx a0 x138) (memOf _) _ (Inv.start _) (hI.rd hr192) hl193 _ hy195) ?_)
          rintro _ _ ⟨rfl, hI'⟩
          replace hI := hI.call0 hI'
          clear hI'
          refine ⟨_, rfl, ?_⟩
          refine ⟨hI, ?_⟩
          refine hg (n := 0) [(23, .p), (24, .p)] (fun _ hS => gO) hI (hd ?_)
          exact hJ182 (decide (y194 ≥ 0)) _ _ ⟨_, at_, hI⟩ H
  · refine ge hc140 ?_
    refine go_exit rfl ?_
    refine go_seq (rp 4 ?_)
    replace H := out_some H
    obtain ⟨_, H, he1⟩ := H
    have he := (hout1 _ he1).symm
    subst he
    replace H := Option.some.inj H
    subst H
    exact gr Try.func53 ⟨rfl, hI⟩

/-! ### assizeref05zplaced -/
theorem enter54 (a : Array Value) : Sem.pureRun Try.prog (callFunc 54 a) = some (.enter 54 a) := by kernel_rfl
theorem assizeref05zplaced_calls (A0z : Option Addr) (c0z : Nat) (a0 : List Txn) (a1 : Int) (M : Mem) (w : World) (hI : Inv M w []) (hr0z : rdS kTxn M.blk A0z a0) (hl0z : a0.length ≤ c0z) (r : Bool) (H : assizeref05zplaced a0 a1 = some r) :
    Calls Try.prog 54 #[vS A0z a0.length c0z, vI a1] w fun e w' => e = .returned (vB r) ∧ Inv M w' [] := by
  refine cg Try.func54 ?_
  intro cs
  unfold assizeref05zplaced at H
  refine go_seq (rp 1 (go_seq (r_in ?_)))
  replace H := must_some H
  obtain ⟨g12, H⟩ := H
  obtain ⟨b16, q17, rfl, cs15, hk14, hg13⟩ := rdS.open hr0z rfl g12
  obtain ⟨_, _, rfl, rfl, ⟨_, _, rfl, rfl, ⟨_, _, rfl, rfl, ⟨_, _, rfl, rfl, ⟨A18, c19, rfl, hl21, hr20⟩⟩⟩⟩⟩ := hk14
  refine bx 0 [.p, .p, .x, .l 0 0] (gA (hI.lies hg13)) _ (bZ g12) (oe 4 rfl ?_)
  refine e_alloc 61 (.agg #[vI 0, vI 0, vI 0, vI 0, vS none 0 0]) [vI 0, vI 0, vI 0, vI 0, vS none 0 0] rfl (by kernel_rfl) rfl hI ?_
  clear hI
  intro b22 _ hI
  refine oe 5 rfl ?_
  refine e_store 61 _ _ 0 b22 61 [vI 0, vI 0, vI 0, vI 0, vS none 0 0] [vI ((idx a0 a1).Proc), vI ((idx a0 a1).Status), vI ((idx a0 a1).From), vI ((idx a0 a1).To), vS A18 (((idx a0 a1).Ops).length) c19] 0 (.agg #[vI ((idx a0 a1).Proc), vI ((idx a0 a1).Status), vI ((idx a0 a1).From), vI ((idx a0 a1).To), vS A18 (((idx a0 a1).Ops).length) c19]) rfl (by kernel_rfl) (by kernel_rfl) (by kernel_rfl) (by kernel_rfl) hI rfl (by kernel_rfl) (by kernel_rfl) ?_
  clear hI
  intro _ hI
  refine ro (go_seq ?_)
  refine go_seq_join (o := r) (fun b39 f w => ∃ (j : Nat → Value), f = updL j [(0, vS (some ⟨b16, q17, none⟩) a0.length c0z), (1, vI a1), (5, vP b22 0), (45, vB b39)] ∧ Inv M w [.blk b22 61 [vI ((idx a0 a1).Proc), vI ((idx a0 a1).Status), vI ((idx a0 a1).From), vI ((idx a0 a1).To), vS A18 (((idx a0 a1).Ops).length) c19]]) (fun b39 => assizeref05zplaced.j1 a0 a1 b39) ?_ (fun hJ40 => ?_)
  · clear H hI
    rintro b39 _ _ ⟨_, rfl, hI⟩ H
    replace H := cond_some H
    rcases H with ⟨hc41, H⟩ | ⟨hc41, H⟩
    · refine gt hc41 (go_seq (rp 1 ?_))
      replace H := Option.some.inj H
      subst H
      exact gr Try.func54 ⟨rfl, hI.pn⟩
    · refine ge hc41 (go_skip (go_seq ?_))
      refine go_seq_join (o := r) (fun b62 f w => ∃ (j : Nat → Value), f = updL j [(0, vS (some ⟨b16, q17, none⟩) a0.length c0z), (1, vI a1), (5, vP b22 0), (58, vB b62)] ∧ Inv M w [.blk b22 61 [vI ((idx a0 a1).Proc), vI ((idx a0 a1).Status), vI ((idx a0 a1).From), vI ((idx a0 a1).To), vS A18 (((idx a0 a1).Ops).length) c19]]) (fun b62 => assizeref05zplaced.j2 a0 a1 b62) ?_ (fun hJ63 => ?_)
      · clear H hI
        rintro b62 _ _ ⟨_, rfl, hI⟩ H
        replace H := cond_some H
        rcases H with ⟨hc64, H⟩ | ⟨hc64, H⟩
        · refine gt hc64 (go_seq (rp 1 ?_))
          replace H := Option.some.inj H
          subst H
          exact gr Try.func54 ⟨rfl, hI.pn⟩
        · refine ge hc64 (go_skip (go_seq (go_seq (rp 1 (go_block ?_)))))
          refine go_iter (assizeref05zplaced.s3 a0 a1) (fun x298 f w => ∃ (j : Nat → Value), f = updL j [(0, vS (some ⟨b16, q17, none⟩) a0.length c0z), (1, vI a1), (5, vP b22 0), (6, vI x298)] ∧ Inv M w [.blk b22 61 [vI ((idx a0 a1).Proc), vI ((idx a0 a1).Status), vI ((idx a0 a1).From), vI ((idx a0 a1).To), vS A18 (((idx a0 a1).Ops).length) c19]]) H ⟨_, at_, hI⟩ ?_
          clear H hI
          rintro x298 _ _ o1 H ⟨_, rfl, hI⟩ hin1 hout1
          refine go_seq (go_seq (rp 3 ?_))
          replace H := cond_some H
          rcases H with ⟨hc300, H⟩ | ⟨hc300, H⟩
          · refine gt hc300 (go_skip (go_seq (go_block ?_)))
            refine go_seq_join (o := o1) (fun b377 f w => ∃ (j : Nat → Value), f = updL j [(0, vS (some ⟨b16, q17, none⟩) a0.length c0z), (1, vI a1), (5, vP b22 0), (6, vI x298), (89, vB b377)] ∧ Inv M w [.blk b22 61 [vI ((idx a0 a1).Proc), vI ((idx a0 a1).Status), vI ((idx a0 a1).From), vI ((idx a0 a1).To), vS A18 (((idx a0 a1).Ops).length) c19]]) (fun b377 => assizeref05zplaced.j4 x298 b377) ?_ (fun hJ378 => ?_)
            · clear H hI
              rintro b377 _ _ ⟨_, rfl, hI⟩ H
              replace H := cond_some H
              rcases H with ⟨hc379, H⟩ | ⟨hc379, H⟩
              · refine gt hc379 (go_seq (rp 1 ?_))
                replace H := out_some H
                obtain ⟨_, H, he1⟩ := H
                have he := (hout1 _ he1).symm
                subst he
                replace H := Option.some.inj H
                subst H
                exact gr Try.func54 ⟨rfl, hI.pn⟩
              · refine ge hc379 (go_skip (go_inBlock (rp 3 ?_)))
                exact hin1 _ (Option.some.inj H).symm _ _ ⟨_, at_, hI⟩
            · replace H := must_some H
              obtain ⟨g380, H⟩ := H
              obtain ⟨cs383, hk382, hg381⟩ := rdS.look hr0z rfl g380
              obtain ⟨_, _, rfl, rfl, ⟨_, _, rfl, rfl, ⟨_, _, rfl, rfl, ⟨_, _, rfl, rfl, ⟨A384, c385, rfl, hl387, hr386⟩⟩⟩⟩⟩ := hk382
              replace H := cond_some H
              rcases H with ⟨hc388, H⟩ | ⟨hc388, H⟩
              · obtain ⟨cs391, hk390, hg389⟩ := rdS.look hr0z rfl g380
                obtain ⟨_, _, rfl, rfl, ⟨_, _, rfl, rfl, ⟨_, _, rfl, rfl, ⟨_, _, rfl, rfl, ⟨A392, c393, rfl, hl395, hr394⟩⟩⟩⟩⟩ := hk390
                replace H := cond_some H
                rcases H with ⟨hc396, H⟩ | ⟨hc396, H⟩
                · refine dx [.p, .p, .x, .p, .l 0 0, .p, .l 1 0, .p, .c true, .p, .p, .x, .p, .l 2 3, .p, .c true, .p, .p, .p, .p, .p, .p, .p, .p, .p, .p] (gC (hI.lies hg381) (hI.grp 0 rfl) (hI.lies hg389)) _ (bC g380 (bC (bndEq hc388) (bC g380 (bZ (bndEq hc396))))) hI ?_
                  clear hI
                  intro _ hI
                  exact hJ378 true _ _ ⟨_, at_, hI⟩ H
                · obtain ⟨cs399, hk398, hg397⟩ := rdS.look hr0z rfl g380
                  obtain ⟨_, _, rfl, rfl, ⟨_, _, rfl, rfl, ⟨_, _, rfl, rfl, ⟨_, _, rfl, rfl, ⟨A400, c401, rfl, hl403, hr402⟩⟩⟩⟩⟩ := hk398
                  refine dx [.p, .p, .x, .p, .l 0 0, .p, .l 1 0, .p, .c true, .p, .p, .x, .p, .l 2 3, .p, .c false, .p, .p, .x, .p, .l 3 3, .p, .l 1 2, .p, .p, .p] (gD (hI.lies hg381) (hI.grp 0 rfl) (hI.lies hg389) (hI.lies hg397)) _ (bC g380 (bC (bndEq hc388) (bC g380 (bC (bndEq hc396) (bZ g380))))) hI ?_
                  clear hI
                  intro _ hI
                  exact hJ378 (decide ((idx a0 x298).To ≥ (idx a0 a1).From)) _ _ ⟨_, at_, hI⟩ H
              · refine dx [.p, .p, .x, .p, .l 0 0, .p, .l 1 0, .p, .c false, .p, .p, .p, .p, .p, .p, .p, .p, .p, .p, .p, .p, .p, .p, .p, .p, .p] (gB (hI.lies hg381) (hI.grp 0 rfl)) _ (bC g380 (bZ (bndEq hc388))) hI ?_
                clear hI
                intro _ hI
                exact hJ378 false _ _ ⟨_, at_, hI⟩ H
          · refine ge hc300 ?_
            refine go_exit rfl ?_
            refine go_seq (rp 1 ?_)
            replace H := out_some H
            obtain ⟨_, H, he1⟩ := H
            have he := (hout1 _ he1).symm
            subst he
            replace H := Option.some.inj H
            subst H
            exact gr Try.func54 ⟨rfl, hI.pn⟩
      · replace H := cond_some H
        rcases H with ⟨hc404, H⟩ | ⟨hc404, H⟩
        · replace H := must_some H
          obtain ⟨g405, H⟩ := H
          obtain ⟨cs408, hk407, hg406⟩ := rdS.look hr0z rfl g405
          obtain ⟨_, _, rfl, rfl, ⟨_, _, rfl, rfl, ⟨_, _, rfl, rfl, ⟨_, _, rfl, rfl, ⟨A409, c410, rfl, hl412, hr411⟩⟩⟩⟩⟩ := hk407
          refine dx [.p, .p, .c true, .p, .l 0 2, .p, .p, .p, .x, .p, .l 1 2, .p, .p] (gB (hI.grp 0 rfl) (hI.lies hg406)) _ (bC (bndEq hc404) (bZ g405)) hI ?_
          clear hI
          intro _ hI
          exact hJ63 (decide ((idx a0 a1).From ≤ (idx a0 (w64 (a1 - 1))).From)) _ _ ⟨_, at_, hI⟩ H
        · refine dx [.p, .p, .c false, .p, .p, .p, .p, .p, .p, .p, .p, .p, .p] gO _ (bZ (bndEq hc404)) hI ?_
          clear hI
          intro _ hI
          exact hJ63 false _ _ ⟨_, at_, hI⟩ H
  · refine r_in ?_
    replace H := cond_some H
    rcases H with ⟨hc413, H⟩ | ⟨hc413, H⟩
    · refine bx 0 [.p, .l 0 1, .p, .c true, .p, .p, .p, .p, .p, .p, .p, .p, .p, .p, .p, .p, .p, .p, .p, .p, .p, .p, .p, .p, .p, .p, .p, .p, .p, .p, .p, .p, .p, .p, .p] (gA (hI.grp 0 rfl)) _ (bZ (bndEq hc413)) (ro ?_)
      exact hJ40 true _ _ ⟨_, at_, hI⟩ H
    · replace H := cond_some H
      rcases H with ⟨hc414, H⟩ | ⟨hc414, H⟩
      · refine bx 0 [.p, .l 0 1, .p, .c false, .p, .l 0 1, .p, .p, .c true, .p, .p, .p, .p, .p, .p, .p, .p, .p, .p, .p, .p, .p, .p, .p, .p, .p, .p, .p, .p, .p, .p, .p, .p, .p, .p] (gA (hI.grp 0 rfl)) _ (bC (bndEq hc413) (bZ (bndEq hc414))) (ro ?_)
        exact hJ40 true _ _ ⟨_, at_, hI⟩ H
      · replace H := cond_some H
        rcases H with ⟨hc415, H⟩ | ⟨hc415, H⟩
        · refine bx 0 [.p, .l 0 1, .p, .c false, .p, .l 0 1, .p, .p, .c false, .p, .l 0 2, .p, .p, .c true, .p, .p, .p, .p, .p, .p, .p, .p, .p, .p, .p, .p, .p, .p, .p, .p, .p, .p, .p, .p, .p] (gA (hI.grp 0 rfl)) _ (bC (bndEq hc413) (bC (bndEq hc414) (bZ (bndEq hc415)))) (ro ?_)
          exact hJ40 true _ _ ⟨_, at_, hI⟩ H
        · replace H := cond_some H
          rcases H with ⟨hc416, H⟩ | ⟨hc416, H⟩
          · replace H := cond_some H
            rcases H with ⟨hc417, H⟩ | ⟨hc417, H⟩
            · refine bx 0 [.p, .l 0 1, .p, .c false, .p, .l 0 1, .p, .p, .c false, .p, .l 0 2, .p, .p, .c false, .p, .l 0 3, .p, .c true, .p, .l 0 3, .p, .l 0 2, .p, .p, .p, .c true, .p, .p, .p, .p, .p, .p, .p, .p, .p] (gA (hI.grp 0 rfl)) _ (bC (bndEq hc413) (bC (bndEq hc414) (bC (bndEq hc415) (bC (bndEq hc416) (bZ (bndEq hc417)))))) (ro ?_)
              exact hJ40 true _ _ ⟨_, at_, hI⟩ H
            · replace H := cond_some H
              rcases H with ⟨hc418, H⟩ | ⟨hc418, H⟩
              · refine bx 0 [.p, .l 0 1, .p, .c false, .p, .l 0 1, .p, .p, .c false, .p, .l 0 2, .p, .p, .c false, .p, .l 0 3, .p, .c true, .p, .l 0 3, .p, .l 0 2, .p, .p, .p, .c false, .p, .l 0 3, .p, .c true, .p, .l 0 1, .p, .p, .p] (gA (hI.grp 0 rfl)) _ (bC (bndEq hc413) (bC (bndEq hc414) (bC (bndEq hc415) (bC (bndEq hc416) (bC (bndEq hc417) (bZ (bndEq hc418))))))) (ro ?_)
                exact hJ40 ((idx a0 a1).Status != 3) _ _ ⟨_, at_, hI⟩ H
              · refine bx 0 [.p, .l 0 1, .p, .c false, .p, .l 0 1, .p, .p, .c false, .p, .l 0 2, .p, .p, .c false, .p, .l 0 3, .p, .c true, .p, .l 0 3, .p, .l 0 2, .p, .p, .p, .c false, .p, .l 0 3, .p, .c false, .p, .p, .p, .p, .p] (gA (hI.grp 0 rfl)) _ (bC (bndEq hc413) (bC (bndEq hc414) (bC (bndEq hc415) (bC (bndEq hc416) (bC (bndEq hc417) (bZ (bndEq hc418))))))) (ro ?_)
                exact hJ40 false _ _ ⟨_, at_, hI⟩ H
          · replace H := cond_some H
            rcases H with ⟨hc419, H⟩ | ⟨hc419, H⟩
            · refine bx 0 [.p, .l 0 1, .p, .c false, .p, .l 0 1, .p, .p, .c false, .p, .l 0 2, .p, .p, .c false, .p, .l 0 3, .p, .c false, .p, .p, .p, .p, .p, .p, .p, .p, .p, .l 0 3, .p, .c true, .p, .l 0 1, .p, .p, .p] (gA (hI.grp 0 rfl)) _ (bC (bndEq hc413) (bC (bndEq hc414) (bC (bndEq hc415) (bC (bndEq hc416) (bZ (bndEq hc419)))))) (ro ?_)
              exact hJ40 ((idx a0 a1).Status != 3) _ _ ⟨_, at_, hI⟩ H
            · refine bx 0 [.p, .l 0 1, .p, .c false, .p, .l 0 1, .p, .p, .c false, .p, .l 0 2, .p, .p, .c false, .p, .l 0 3, .p, .c false, .p, .p, .p, .p, .p, .p, .p, .p, .p, .l 0 3, .p, .c false, .p, .p, .p, .p, .p] (gA (hI.grp 0 rfl)) _ (bC (bndEq hc413) (bC (bndEq hc414) (bC (bndEq hc415) (bC (bndEq hc416) (bZ (bndEq hc419)))))) (ro ?_)
              exact hJ40 false _ _ ⟨_, at_, hI⟩ H

/-! ### assizeref03zcall -/
theorem enter70 (a : Array Value) : Sem.pureRun Try.prog (callFunc 70 a) = some (.enter 70 a) := by kernel_rfl
theorem assizeref03zcall_calls (a0 : Call) (A0z0 : Option Addr) (c0z0 : Nat) (a1 : Int) (M : Mem) (w : World) (hI : Inv M w []) (hr0z0 : rdS (tInt .i64) M.blk A0z0 a0.Vals) (hl0z0 : a0.Vals.length ≤ c0z0) (r : Bool) (H : assizeref03zcall a0 a1 = some r) :
    Calls Try.prog 70 #[.agg #[vI a0.Kind, .string a0.Key, vI a0.Arg, vB a0.Got, vS A0z0 a0.Vals.length c0z0], vI a1] w fun e w' => e = .returned (vB r) ∧ Inv M w' [] := by
  refine cg Try.func70 ?_
  intro cs
  unfold assizeref03zcall at H
  refine go_seq (r_in (oe 0 rfl ?_))
  refine e_box 97 _ (.agg #[vI a0.Kind, .string a0.Key, vI a0.Arg, vB a0.Got, vS A0z0 a0.Vals.length c0z0]) [vI a0.Kind, .string a0.Key, vI a0.Arg, vB a0.Got, vS A0z0 a0.Vals.length c0z0] rfl (by kernel_rfl) rfl hI ?_
  clear hI
  intro b2 _ hI
  refine bp 1 1 (ro (go_seq ?_))
  refine go_seq_join (o := r) (fun b11 f w => ∃ (j : Nat → Value), f = updL j [(1, vI a1), (2, vP b2 0), (25, vB b11)] ∧ Inv M w [.blk b2 97 [vI a0.Kind, .string a0.Key, vI a0.Arg, vB a0.Got, vS A0z0 a0.Vals.length c0z0]]) (fun b11 => assizeref03zcall.j1 a0 a1 b11) ?_ (fun hJ12 => ?_)
  · clear H hI
    rintro b11 _ _ ⟨_, rfl, hI⟩ H
    replace H := cond_some H
    rcases H with ⟨hc13, H⟩ | ⟨hc13, H⟩
    · refine gt hc13 (go_seq (rp 1 ?_))
      replace H := Option.some.inj H
      subst H
      exact gr Try.func70 ⟨rfl, hI.pn⟩
    · refine ge hc13 (go_skip (go_seq (go_seq (rg [.p, .l 0 0, .p] (gA (hI.grp 0 rfl)) ?_))))
      replace H := cond_some H
      rcases H with ⟨hc20, H⟩ | ⟨hc20, H⟩
      · refine gt hc20 (go_seq (r_in ?_))
        replace H := cond_some H
        rcases H with ⟨hc25, H⟩ | ⟨hc25, H⟩
        · replace H := cond_some H
          rcases H with ⟨hc26, H⟩ | ⟨hc26, H⟩
          · replace H := cond_some H
            rcases H with ⟨hc27, H⟩ | ⟨hc27, H⟩
            · refine bx 0 [.p, .l 0 3, .p, .c true, .p, .l 0 4, .p, .p, .p, .c true, .p, .l 0 0, .p, .c true, .p, .p, .p, .p, .p, .p, .p, .p, .p, .p, .p] (gA (hI.grp 0 rfl)) _ (bC (bndEq hc25) (bC (bndEq hc26) (bZ (bndEq hc27)))) (ro ?_)
              replace H := Option.some.inj H
              subst H
              exact gr Try.func70 ⟨rfl, hI.pn⟩
            · replace H := cond_some H
              rcases H with ⟨hc28, H⟩ | ⟨hc28, H⟩
              · refine bx 0 [.p, .l 0 3, .p, .c true, .p, .l 0 4, .p, .p, .p, .c true, .p, .l 0 0, .p, .c false, .p, .l 0 2, .p, .c true, .p, .l 0 2, .p, .p, .p, .p, .p] (gA (hI.grp 0 rfl)) _ (bC (bndEq hc25) (bC (bndEq hc26) (bC (bndEq hc27) (bZ (bndEq hc28))))) (ro ?_)
                replace H := Option.some.inj H
                subst H
                exact gr Try.func70 ⟨rfl, hI.pn⟩
              · refine bx 0 [.p, .l 0 3, .p, .c true, .p, .l 0 4, .p, .p, .p, .c true, .p, .l 0 0, .p, .c false, .p, .l 0 2, .p, .c false, .p, .p, .p, .p, .p, .p, .p] (gA (hI.grp 0 rfl)) _ (bC (bndEq hc25) (bC (bndEq hc26) (bC (bndEq hc27) (bZ (bndEq hc28))))) (ro ?_)
                replace H := Option.some.inj H
                subst H
                exact gr Try.func70 ⟨rfl, hI.pn⟩
          · refine bx 0 [.p, .l 0 3, .p, .c true, .p, .l 0 4, .p, .p, .p, .c false, .p, .p, .p, .p, .p, .p, .p, .p, .p, .p, .p, .p, .p, .p, .p] (gA (hI.grp 0 rfl)) _ (bC (bndEq hc25) (bZ (bndEq hc26))) (ro ?_)
            replace H := Option.some.inj H
            subst H
            exact gr Try.func70 ⟨rfl, hI.pn⟩
        · refine bx 0 [.p, .l 0 3, .p, .c false, .p, .p, .p, .p, .p, .p, .p, .p, .p, .p, .p, .p, .p, .p, .p, .p, .p, .p, .p, .p, .p] (gA (hI.grp 0 rfl)) _ (bZ (bndEq hc25)) (ro ?_)
          replace H := Option.some.inj H
          subst H
          exact gr Try.func70 ⟨rfl, hI.pn⟩
      · refine ge hc20 (go_skip (go_seq ?_))
        refine go_seq_join (o := r) (fun b37 f w => ∃ (j : Nat → Value), f = updL j [(2, vP b2 0), (73, vB b37)] ∧ Inv M w [.blk b2 97 [vI a0.Kind, .string a0.Key, vI a0.Arg, vB a0.Got, vS A0z0 a0.Vals.length c0z0]]) (fun b37 => assizeref03zcall.j2 a0 b37) ?_ (fun hJ38 => ?_)
        · clear H hI
          rintro b37 _ _ ⟨_, rfl, hI⟩ H
          replace H := cond_some H
          rcases H with ⟨hc39, H⟩ | ⟨hc39, H⟩
          · refine gt hc39 (go_seq (rp 1 ?_))
            replace H := Option.some.inj H
            subst H
            exact gr Try.func70 ⟨rfl, hI.pn⟩
          · refine ge hc39 (go_skip (go_seq (go_seq (rg [.p, .l 0 0] (gA (hI.grp 0 rfl)) ?_))))
            refine go_block_join (o := r) (fun (_ : Unit) f w => ∃ (j : Nat → Value), f = updL j [(2, vP b2 0)] ∧ Inv M w [.blk b2 97 [vI a0.Kind, .string a0.Key, vI a0.Arg, vB a0.Got, vS A0z0 a0.Vals.length c0z0]]) (fun (_ : Unit) => assizeref03zcall.j3 a0) ?_ (fun hJ98 => ?_)
            · clear H hI
              rintro ⟨⟩ _ _ ⟨_, rfl, hI⟩ H
              refine go_seq (rg [.p, .l 0 4, .p, .p, .p] (gA (hI.grp 0 rfl)) ?_)
              replace H := Option.some.inj H
              subst H
              exact gr Try.func70 ⟨rfl, hI.pn⟩
            · refine go_seq (rp 2 ?_)
              replace H := cond_some H
              rcases H with ⟨hc99, H⟩ | ⟨hc99, H⟩
              · refine gt hc99 (go_seq (rg [.p, .l 0 4, .p, .p, .p] (gA (hI.grp 0 rfl)) ?_))
                replace H := Option.some.inj H
                subst H
                exact gr Try.func70 ⟨rfl, hI.pn⟩
              · refine ge hc99 (go_seq (rp 2 ?_))
                replace H := cond_some H
                rcases H with ⟨hc100, H⟩ | ⟨hc100, H⟩
                · refine gt hc100 (go_seq (r_in ?_))
                  replace H := cond_some H
                  rcases H with ⟨hc102, H⟩ | ⟨hc102, H⟩
                  · refine bx 0 [.p, .l 0 3, .p, .c true, .p, .p, .p, .p, .p, .p] (gA (hI.grp 0 rfl)) _ (bZ (bndEq hc102)) (ro ?_)
                    replace H := Option.some.inj H
                    subst H
                    exact gr Try.func70 ⟨rfl, hI.pn⟩
                  · refine bx 0 [.p, .l 0 3, .p, .c false, .p, .l 0 4, .p, .p, .p, .p] (gA (hI.grp 0 rfl)) _ (bZ (bndEq hc102)) (ro ?_)
                    replace H := Option.some.inj H
                    subst H
                    exact gr Try.func70 ⟨rfl, hI.pn⟩
                · refine ge hc100 (go_seq (rp 2 ?_))
                  replace H := cond_some H
                  rcases H with ⟨hc103, H⟩ | ⟨hc103, H⟩
                  · refine gt hc103 (go_seq (rp 1 (go_block ?_)))
                    refine go_iter (assizeref03zcall.s4 a0) (fun x145 f w => ∃ (j : Nat → Value), f = updL j [(2, vP b2 0), (5, vI x145)] ∧ Inv M w [.blk b2 97 [vI a0.Kind, .string a0.Key, vI a0.Arg, vB a0.Got, vS A0z0 a0.Vals.length c0z0]]) H ⟨_, at_, hI⟩ ?_
                    clear H hI
                    rintro x145 _ _ o1 H ⟨_, rfl, hI⟩ hin1 hout1
                    refine go_seq (go_seq (rg [.p, .p, .l 0 4, .p, .p] (gA (hI.grp 0 rfl)) ?_))
                    replace H := cond_some H
                    rcases H with ⟨hc147, H⟩ | ⟨hc147, H⟩
                    · refine gt hc147 (go_skip (go_seq (go_block (go_seq ?_))))
                      replace H := must_some H
                      obtain ⟨g162, H⟩ := H
                      obtain ⟨b163, q164, rfl, _⟩ := rdS.fopen hr0z0 rfl g162
                      replace H := must_some H
                      obtain ⟨g165, H⟩ := H
                      refine dx [.p, .l 0 4, .p, .x, .l 1 0, .p, .l 0 4, .p, .p, .x, .l 2 0, .p] (gC (hI.grp 0 rfl) (hI.lies (rdS.flook hr0z0 rfl g162)) (hI.lies (rdS.flook hr0z0 rfl g165))) _ (bC g162 (bZ g165)) hI ?_
                      clear hI
                      intro _ hI
                      replace H := cond_some H
                      rcases H with ⟨hc166, H⟩ | ⟨hc166, H⟩
                      · refine gt hc166 (go_seq (rp 1 ?_))
                        replace H := out_some H
                        obtain ⟨_, H, he1⟩ := H
                        have he := (hout1 _ he1).symm
                        subst he
                        replace H := Option.some.inj H
                        subst H
                        exact gr Try.func70 ⟨rfl, hI.pn⟩
                      · refine ge hc166 (go_skip (go_inBlock (rp 3 ?_)))
                        exact hin1 _ (Option.some.inj H).symm _ _ ⟨_, at_, hI⟩
                    · refine ge hc147 ?_
                      refine go_exit rfl ?_
                      refine go_inBlock ?_
                      replace H := out_some H
                      obtain ⟨_, H, he1⟩ := H
                      have he := (hout1 _ he1).symm
                      subst he
                      exact hJ98 () _ _ ⟨_, at_, hI⟩ H
                  · refine ge hc103 (go_skip (go_inBlock ?_))
                    exact hJ98 () _ _ ⟨_, at_, hI⟩ H
        · refine r_in ?_
          replace H := cond_some H
          rcases H with ⟨hc167, H⟩ | ⟨hc167, H⟩
          · refine bx 0 [.p, .l 0 2, .p, .c true, .p, .p, .p, .p, .p, .p, .p, .p, .p, .p, .p, .p, .p, .p, .p, .p, .p] (gA (hI.grp 0 rfl)) _ (bZ (bndEq hc167)) (ro ?_)
            exact hJ38 true _ _ ⟨_, at_, hI⟩ H
          · replace H := cond_some H
            rcases H with ⟨hc168, H⟩ | ⟨hc168, H⟩
            · refine bx 0 [.p, .l 0 2, .p, .c false, .p, .l 0 3, .p, .p, .p, .p, .c true, .p, .p, .p, .p, .p, .p, .p, .p, .p, .p] (gA (hI.grp 0 rfl)) _ (bC (bndEq hc167) (bZ (bndEq hc168))) (ro ?_)
              exact hJ38 true _ _ ⟨_, at_, hI⟩ H
            · replace H := cond_some H
              rcases H with ⟨hc169, H⟩ | ⟨hc169, H⟩
              · refine bx 0 [.p, .l 0 2, .p, .c false, .p, .l 0 3, .p, .p, .p, .p, .c false, .p, .l 0 3, .p, .c true, .p, .l 0 4, .p, .p, .p, .p] (gA (hI.grp 0 rfl)) _ (bC (bndEq hc167) (bC (bndEq hc168) (bZ (bndEq hc169)))) (ro ?_)
                exact hJ38 (decide ((a0.Vals.length : Int) > 0)) _ _ ⟨_, at_, hI⟩ H
              · refine bx 0 [.p, .l 0 2, .p, .c false, .p, .l 0 3, .p, .p, .p, .p, .c false, .p, .l 0 3, .p, .c false, .p, .p, .p, .p, .p, .p] (gA (hI.grp 0 rfl)) _ (bC (bndEq hc167) (bC (bndEq hc168) (bZ (bndEq hc169)))) (ro ?_)
                exact hJ38 false _ _ ⟨_, at_, hI⟩ H
  · refine r_in ?_
    replace H := cond_some H
    rcases H with ⟨hc170, H⟩ | ⟨hc170, H⟩
    · refine bx 0 [.p, .l 0 0, .p, .c true, .p, .p, .p, .p, .p, .p, .p, .p, .p, .p, .p, .p, .p, .p, .p, .p] (gA (hI.grp 0 rfl)) _ (bZ (bndEq hc170)) (ro ?_)
      exact hJ12 true _ _ ⟨_, at_, hI⟩ H
    · replace H := cond_some H
      rcases H with ⟨hc171, H⟩ | ⟨hc171, H⟩
      · refine bx 0 [.p, .l 0 0, .p, .c false, .p, .l 0 0, .p, .p, .c true, .p, .p, .p, .p, .p, .p, .p, .p, .p, .p, .p] (gA (hI.grp 0 rfl)) _ (bC (bndEq hc170) (bZ (bndEq hc171))) (ro ?_)
        exact hJ12 true _ _ ⟨_, at_, hI⟩ H
      · replace H := cond_some H
        rcases H with ⟨hc172, H⟩ | ⟨hc172, H⟩
        · refine bx 0 [.p, .l 0 0, .p, .c false, .p, .l 0 0, .p, .p, .c false, .p, .l 0 1, .p, .p, .p, .c true, .p, .p, .p, .p, .p] (gA (hI.grp 0 rfl)) _ (bC (bndEq hc170) (bC (bndEq hc171) (bZ (bndEq hc172)))) (ro ?_)
          exact hJ12 true _ _ ⟨_, at_, hI⟩ H
        · refine bx 0 [.p, .l 0 0, .p, .c false, .p, .l 0 0, .p, .p, .c false, .p, .l 0 1, .p, .p, .p, .c false, .p, .l 0 1, .p, .p, .p] (gA (hI.grp 0 rfl)) _ (bC (bndEq hc170) (bC (bndEq hc171) (bZ (bndEq hc172)))) (ro ?_)
          exact hJ12 (decide ((a0.Key.size : Int) > 32)) _ _ ⟨_, at_, hI⟩ H

/-! ### assizeref03zsound -/
theorem enter65 (a : Array Value) : Sem.pureRun Try.prog (callFunc 65 a) = some (.enter 65 a) := by kernel_rfl
theorem assizeref03zsound_calls (a0 : Event) (A0z0 : Option Addr) (c0z0 : Nat) (M : Mem) (w : World) (hI : Inv M w []) (hr0z0 : rdS kCall M.blk A0z0 a0.Calls) (hl0z0 : a0.Calls.length ≤ c0z0) (r : Bool) (H : assizeref03zsound a0 = some r) :
    Calls Try.prog 65 #[.agg #[vI a0.Proc, vI a0.Kind, vS A0z0 a0.Calls.length c0z0]] w fun e w' => e = .returned (vB r) ∧ Inv M w' [] := by
  refine cg Try.func65 ?_
  intro cs
  unfold assizeref03zsound at H
  refine go_seq (r_in (oe 0 rfl ?_))
  refine e_box 92 _ (.agg #[vI a0.Proc, vI a0.Kind, vS A0z0 a0.Calls.length c0z0]) [vI a0.Proc, vI a0.Kind, vS A0z0 a0.Calls.length c0z0] rfl (by kernel_rfl) rfl hI ?_
  clear hI
  intro b2 _ hI
  refine bp 1 1 (ro (go_seq ?_))
  refine go_seq_join (o := r) (fun b9 f w => ∃ (j : Nat → Value), f = updL j [(1, vP b2 0), (17, vB b9)] ∧ Inv M w [.blk b2 92 [vI a0.Proc, vI a0.Kind, vS A0z0 a0.Calls.length c0z0]]) (fun b9 => assizeref03zsound.j1 a0 b9) ?_ (fun hJ10 => ?_)
  · clear H hI
    rintro b9 _ _ ⟨_, rfl, hI⟩ H
    replace H := cond_some H
    rcases H with ⟨hc11, H⟩ | ⟨hc11, H⟩
    · refine gt hc11 (go_seq (rp 1 ?_))
      replace H := Option.some.inj H
      subst H
      exact gr Try.func65 ⟨rfl, hI.pn⟩
    · refine ge hc11 (go_skip (go_seq (go_seq (rp 1 (go_block ?_)))))
      refine go_iter (assizeref03zsound.s2 a0) (fun x141 f w => ∃ (j : Nat → Value), f = updL j [(1, vP b2 0), (3, vI x141)] ∧ Inv M w [.blk b2 92 [vI a0.Proc, vI a0.Kind, vS A0z0 a0.Calls.length c0z0]]) H ⟨_, at_, hI⟩ ?_
      clear H hI
      rintro x141 _ _ o1 H ⟨_, rfl, hI⟩ hin1 hout1
      refine go_seq (go_seq (rg [.p, .p, .l 0 2, .p, .p] (gA (hI.grp 0 rfl)) ?_))
      replace H := cond_some H
      rcases H with ⟨hc143, H⟩ | ⟨hc143, H⟩
      · refine gt hc143 (go_skip (go_seq (go_block (go_seq ?_))))
        replace H := must_some H
        obtain ⟨g182, H⟩ := H
        obtain ⟨b186, q187, rfl, cs185, hk184, hg183⟩ := rdS.open hr0z0 rfl g182
        obtain ⟨_, _, rfl, rfl, ⟨_, _, rfl, rfl, ⟨_, _, rfl, rfl, ⟨_, _, rfl, rfl, ⟨A188, c189, rfl, hl191, hr190⟩⟩⟩⟩⟩ := hk184
        replace H := bind_some H
        obtain ⟨y192, hy193, H⟩ := H
        refine go_held (fun w => Inv M w [.blk b2 92 [vI a0.Proc, vI a0.Kind, vS (some ⟨b186, q187, none⟩) a0.Calls.length c0z0]]) (by kernel_rfl) ?_
        replace hI := hI.drew'
        refine hx (n := 2) [(0, .p), (1, .l 0 2), (2, .p), (3, .x), (4, .l 1 0), (5, .p), (6, .l 0 1)] (fun _ hS => (gB (hS.grp 0 rfl) (hS.lies hg183))) hI _ (bZ g182) ?_
        refine ho (n := 1) 7 rfl (ec (enter70 _) (assizeref03zcall_calls (idx a0.Calls x141) A188 c189 a0.Kind (memOf _) _ (Inv.start _) (hI.rd hr190) hl191 _ hy193) ?_)
        rintro _ _ ⟨rfl, hI'⟩
        replace hI := hI.call0 hI'
        clear hI'
        refine ⟨_, rfl, ?_⟩
        refine ⟨hI, ?_⟩
        refine hg (n := 0) [(8, .p)] (fun _ hS => gO) hI (hd ?_)
        replace H := cond_some H
        rcases H with ⟨hc194, H⟩ | ⟨hc194, H⟩
        · refine gt hc194 (go_seq (rp 1 ?_))
          replace H := out_some H
          obtain ⟨_, H, he1⟩ := H
          have he := (hout1 _ he1).symm
          subst he
          replace H := Option.some.inj H
          subst H
          exact gr Try.func65 ⟨rfl, hI.pn⟩
        · refine ge hc194 (go_skip (go_inBlock (rp 3 ?_)))
          exact hin1 _ (Option.some.inj H).symm _ _ ⟨_, at_, hI⟩
      · refine ge hc143 ?_
        refine go_exit rfl ?_
        refine go_seq (rp 1 ?_)
        replace H := out_some H
        obtain ⟨_, H, he1⟩ := H
        have he := (hout1 _ he1).symm
        subst he
        replace H := Option.some.inj H
        subst H
        exact gr Try.func65 ⟨rfl, hI.pn⟩
  · refine r_in ?_
    replace H := cond_some H
    rcases H with ⟨hc195, H⟩ | ⟨hc195, H⟩
    · refine bx 0 [.p, .l 0 1, .p, .c true, .p, .p, .p, .p, .p, .p, .p, .p, .p, .p] (gA (hI.grp 0 rfl)) _ (bZ (bndEq hc195)) (ro ?_)
      exact hJ10 true _ _ ⟨_, at_, hI⟩ H
    · replace H := cond_some H
      rcases H with ⟨hc196, H⟩ | ⟨hc196, H⟩
      · refine bx 0 [.p, .l 0 1, .p, .c false, .p, .l 0 1, .p, .p, .c true, .p, .p, .p, .p, .p] (gA (hI.grp 0 rfl)) _ (bC (bndEq hc195) (bZ (bndEq hc196))) (ro ?_)
        exact hJ10 true _ _ ⟨_, at_, hI⟩ H
      · refine bx 0 [.p, .l 0 1, .p, .c false, .p, .l 0 1, .p, .p, .c false, .p, .l 0 2, .p, .p, .p] (gA (hI.grp 0 rfl)) _ (bC (bndEq hc195) (bZ (bndEq hc196))) (ro ?_)
        exact hJ10 (decide ((a0.Calls.length : Int) > 16)) _ _ ⟨_, at_, hI⟩ H

/-! ### assizeref03zCheck -/
theorem enter55 (a : Array Value) : Sem.pureRun Try.prog (callFunc 55 a) = some (.enter 55 a) := by kernel_rfl
theorem assizeref03zCheck_calls (A0z : Option Addr) (c0z : Nat) (a0 : List Event) (M : Mem) (w : World) (hI : Inv M w []) (hr0z : rdS kEvent M.blk A0z a0) (hl0z : a0.length ≤ c0z) (r : Int) (H : assizeref03zCheck a0 = some r) :
    Calls Try.prog 55 #[vS A0z a0.length c0z] w fun e w' => e = .returned (vI r) ∧ Inv M w' [] := by
  refine cg Try.func55 ?_
  intro cs
  unfold assizeref03zCheck at H
  refine go_seq (rp 1 (go_seq (go_seq (rp 3 ?_))))
  replace H := cond_some H
  rcases H with ⟨hc2, H⟩ | ⟨hc2, H⟩
  · refine gt hc2 (go_seq (rp 1 ?_))
    replace H := Option.some.inj H
    subst H
    exact gr Try.func55 ⟨rfl, hI⟩
  · refine ge hc2 (go_skip (go_seq (go_seq (rp 1 (go_block ?_)))))
    refine go_iter (assizeref03zCheck.s1 a0) (fun x132 f w => ∃ (j : Nat → Value), f = updL j [(0, vS A0z a0.length c0z), (3, vI x132)] ∧ Inv M w []) H ⟨_, at_, hI⟩ ?_
    clear H hI
    rintro x132 _ _ o1 H ⟨_, rfl, hI⟩ hin1 hout1
    refine go_seq (go_seq (rp 4 ?_))
    replace H := cond_some H
    rcases H with ⟨hc134, H⟩ | ⟨hc134, H⟩
    · refine gt hc134 (go_skip (go_seq (go_block (go_seq (r_in ?_)))))
      replace H := must_some H
      obtain ⟨g173, H⟩ := H
      obtain ⟨b177, q178, rfl, cs176, hk175, hg174⟩ := rdS.open hr0z rfl g173
      obtain ⟨_, _, rfl, rfl, ⟨_, _, rfl, rfl, ⟨A179, c180, rfl, hl182, hr181⟩⟩⟩ := hk175
      refine bx 0 [.p, .p, .x, .l 0 0] (gA (hI.lies hg174)) _ (bZ g173) ?_
      replace H := bind_some H
      obtain ⟨y183, hy184, H⟩ := H
      refine oe 4 rfl ?_
      refine ec (enter65 _) (assizeref03zsound_calls (idx a0 x132) A179 c180 (memOf _) _ (Inv.start _) (hI.rd hr181) hl182 _ hy184) ?_
      rintro _ _ ⟨rfl, hI'⟩
      replace hI := hI.call0 hI'
      clear hI'
      refine ⟨_, rfl, ?_⟩
      refine bp 5 1 (ro ?_)
      replace H := cond_some H
      rcases H with ⟨hc185, H⟩ | ⟨hc185, H⟩
      · refine gt hc185 (go_seq (rp 1 ?_))
        replace H := out_some H
        obtain ⟨_, H, he1⟩ := H
        have he := (hout1 _ he1).symm
        subst he
        replace H := Option.some.inj H
        subst H
        exact gr Try.func55 ⟨rfl, hI⟩
      · refine ge hc185 (go_skip (go_inBlock (rp 3 ?_)))
        exact hin1 _ (Option.some.inj H).symm _ _ ⟨_, at_, hI⟩
    · refine ge hc134 ?_
      refine go_exit rfl ?_
      refine go_seq (rp 1 ?_)
      replace H := out_some H
      obtain ⟨_, H, he1⟩ := H
      have he := (hout1 _ he1).symm
      subst he
      replace H := Option.some.inj H
      subst H
      exact gr Try.func55 ⟨rfl, hI⟩

/-! ### assizeref05zOf -/
theorem enter58 (a : Array Value) : Sem.pureRun Try.prog (callFunc 58 a) = some (.enter 58 a) := by kernel_rfl
theorem assizeref05zOf_calls (a0 : Int) (M : Mem) (w : World) (hI : Inv M w []) (r : Int) (H : assizeref05zOf a0 = some r) :
    Calls Try.prog 58 #[vI a0] w fun e w' => e = .returned (vI r) ∧ Inv M w' [] := by
  refine cg Try.func58 ?_
  intro cs
  unfold assizeref05zOf at H
  refine go_seq (rp 1 (go_seq (rp 5 ?_)))
  replace H := Option.some.inj H
  subst H
  exact gr Try.func58 ⟨rfl, hI⟩

end Go.Proofs.YtmfihodpbladeaaT
